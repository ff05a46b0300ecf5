import Derived.WalkKit
import Derived.CallsIn
import Derived.Deep.AppendSrc
import Derived.DeepKeys
namespace Go
/-! ### Trees -/
inductive Rose (α : Type) : Type where
  | node (x : α) (subs : List (Rose α)) : Rose α
namespace Rose
variable {α β : Type}
def val : Rose α → α
  | .node x _ => x
def subs : Rose α → List (Rose α)
  | .node _ l => l
mutual
theorem ind {p : Rose α → Prop} (h : ∀ x l, (∀ y ∈ l, p y) → p (.node x l)) : ∀ r, p r
  | .node x l => h x l (inds h l)
theorem inds {p : Rose α → Prop} (h : ∀ x l, (∀ y ∈ l, p y) → p (.node x l)) : ∀ (l : List (Rose α)) (y : Rose α), y ∈ l → p y
  | [], _, hy => by cases hy
  | z :: l, y, hy => by
    rcases List.mem_cons.1 hy with e | e
    · rw [e]; exact ind h z
    · exact inds h l y e
end
mutual
/-- Of all parts of a tree. -/
def all (p : α → Nat → Prop) : Rose α → Prop
  | .node x l => p x l.length ∧ alls p l
def alls (p : α → Nat → Prop) : List (Rose α) → Prop
  | [] => True
  | y :: l => all p y ∧ alls p l
end
theorem alls_iff {p : α → Nat → Prop} : ∀ (l : List (Rose α)), alls p l ↔ ∀ y ∈ l, all p y
  | [] => by simp [alls]
  | y :: l => by simp only [alls, List.mem_cons, forall_eq_or_imp, alls_iff l]
mutual
def size (f : α → Nat) : Rose α → Nat
  | .node x l => f x + sizes f l + 1
def sizes (f : α → Nat) : List (Rose α) → Nat
  | [] => 0
  | y :: l => size f y + sizes f l
end
end Rose
end Go
namespace Go.AM
set_option linter.unusedVariables false
open Go.RowKit

/-! ### Types of data -/
inductive Ty where
  | int (k : IntKind)
  | bool
  | str
  | arr (e : Ty)
  | vec (n : Nat) (e : Ty)
  | unit
  | pair (a b : Ty)
  | rose (a b : Ty)
  | fnc
  | any
  deriving DecidableEq

@[reducible] def Ty.den : Ty → Type
  | .int _ => Int
  | .bool => Bool
  | .str => List Int
  | .arr e => List e.den
  | .vec _ e => List e.den
  | .unit => Unit
  | .pair a b => a.den × b.den
  | .rose a b => Rose (a.den × b.den)
  | .fnc => FuncId
  | .any => Unit

def Ty.cells : Ty → Nat
  | .int _ | .bool | .str | .arr _ | .fnc | .any => 1
  | .vec n e => n * e.cells
  | .unit => 0
  | .pair a b => a.cells + b.cells
  | .rose a b => a.cells + 1 + b.cells

def Ty.isAgg : Ty → Bool
  | .vec .. | .unit | .pair .. | .rose .. => true
  | _ => false

def Ty.small (e : Ty) : Bool := Nat.beq e.cells 1 && !e.isAgg

def Ty.flat : Ty → Bool
  | .int _ | .bool | .str | .unit | .fnc | .any => true
  | .arr _ => false
  | .vec _ e => e.flat
  | .pair a b => a.flat && b.flat
  | .rose _ _ => false

def dflt : (t : Ty) → t.den
  | .int _ => (0 : Int)
  | .bool => false
  | .str => ([] : List Int)
  | .arr e => ([] : List e.den)
  | .vec n e => (List.replicate n (dflt e) : List e.den)
  | .unit => ()
  | .pair a b => (dflt a, dflt b)
  | .rose a b => (.node (dflt a, dflt b) [] : Rose (a.den × b.den))
  | .fnc => (0 : Nat)
  | .any => ()

def cast? (t u : Ty) (x : t.den) : Option u.den :=
  match decEq t u with
  | isTrue h => some (h ▸ x)
  | isFalse _ => none

@[reducible] def dens : List Ty → Type
  | [] => Unit
  | [t] => t.den
  | t :: u :: ts => t.den × dens (u :: ts)

/-! ### Abstract values -/
inductive AV where
  | junk
  | und
  | tt
  | ff
  | d (t : Ty) (x : t.den)
  | fs (e : Ty) (xs : List e.den)
  | nils
  | agg (cs : List AV)
  | tup (cs : List AV)
  | fn (f : FuncId) (cap : List AV)
  | nilf
  | nilp
  | own (k off : Nat)
  | sl (k : Nat)
  | slp (k sz : Nat) (i : Int)
  | rp (t : Ty) (x : t.den)
  | yld (k : Nat)
  | bnd (f : FuncId) (first : List AV)
  | sv (k sz : Nat) (lo hi : Int)

inductive Ex where
  | normal
  | exit (id : Nat)
  | ret

/-- How far a range over a function has come. -/
inductive Ph where
  | ready | busy | done (e : Ex) | exhausted

/-- Maps from integers, as lists of keys and values. -/
def mput {α : Type} : List (Int × α) → Int → α → List (Int × α)
  | [], n, x => [(n, x)]
  | p :: m, n, x => if p.1 = n then (n, x) :: m else p :: mput m n x
def mget {α : Type} : List (Int × α) → Int → Option α
  | [], _ => none
  | p :: m, n => if p.1 = n then some p.2 else mget m n

/-- Parameters of a yield as one. -/
def tyOf : List Ty → Ty
  | [] => .unit
  | [t] => t
  | t :: u :: ts => .pair t (tyOf (u :: ts))
def undens : (ts : List Ty) → (tyOf ts).den → dens ts
  | [], _ => ()
  | [_], x => x
  | _ :: u :: ts, x => (x.1, undens (u :: ts) x.2)
def redens : (ts : List Ty) → dens ts → (tyOf ts).den
  | [], _ => ()
  | [_], x => x
  | _ :: u :: ts, x => (x.1, redens (u :: ts) x.2)
theorem undens_re : ∀ (ts : List Ty) (x : dens ts), undens ts (redens ts x) = x
  | [], _ => rfl
  | [_], _ => rfl
  | _ :: u :: ts, x => by
    obtain ⟨a, b⟩ := x
    show (a, undens (u :: ts) (redens (u :: ts) b)) = (a, b)
    rw [undens_re (u :: ts) b]

/-- The one who listens to what an iterator yields: the number of its loop, what is to come, its state after so many (with its own blocks), or after it has stopped. -/
structure Proto (ys : List Ty) where
  l : Nat
  items : List (tyOf ys).den
  R : List (tyOf ys).den → (Nat → Prop) → (Addr → Option Value) → World → Prop
  Rf : (Nat → Prop) → (Addr → Option Value) → World → Prop

inductive Blk where
  | gone
  | log (ys : List Ty) (Y : Proto ys) (own : Nat → Prop) (xs : List (tyOf ys).den)
  | lof (ys : List Ty) (Y : Proto ys) (own : Nat → Prop)
  | cells (cs : List AV)
  | grow (tid : TypeId) (e : Ty) (xs : List e.den)
  | kmap (es : List (Int × FuncId))
  | dmap (e : Ty) (m : List (Int × e.den))
  | diter (e : Ty) (last left : List (Int × e.den))
  | loop (f : FuncId) (p : List Nat) (ph : Ph) (tmps : List AV)

structure St where
  top : List AV
  below : List (List AV)
  heap : List Blk

def fget : List AV → Nat → AV
  | [], _ => .junk
  | a :: _, 0 => a
  | _ :: l, i + 1 => fget l i

def fset : List AV → Nat → AV → List AV
  | [], _, _ => []
  | _ :: l, 0, v => v :: l
  | a :: l, i + 1, v => a :: fset l i v

def hget : List Blk → Nat → Blk
  | [], _ => .gone
  | a :: _, 0 => a
  | _ :: l, i + 1 => hget l i

def hset : List Blk → Nat → Blk → List Blk
  | [], _, _ => []
  | _ :: l, 0, v => v :: l
  | a :: l, i + 1, v => a :: hset l i v

def St.put (s : St) (dst : Option Tmp) (v : AV) : St :=
  match dst with
  | some t => { s with top := fset s.top t v }
  | none => s

def inKind (k : IntKind) (n : Int) : Bool := decide (k.min ≤ n) && decide (n ≤ k.max)

def bytesOf (s : ByteArray) : List Int := s.data.toList.map fun b => (b.toNat : Int)

/-- A constant of one cell. -/
def ofV1 : Value → AV
  | .bool true => .tt
  | .bool false => .ff
  | .int k n => if inKind k n then .d (.int k) n else .junk
  | .string s => if s.size ≤ maxLen then .d .str (bytesOf s) else .junk
  | .slice none 0 0 => .nils
  | .nilFunc => .nilf
  | .pointer none => .nilp
  | _ => .junk

def ofVs : List Value → List AV
  | [] => []
  | v :: vs => ofV1 v :: ofVs vs

def ofV : Value → AV
  | .agg cs => if cs.toList.all Value.oneCell' then .agg (ofVs cs.toList) else .junk
  | v => ofV1 v

def ev (fr : List AV) : Operand → AV
  | .tmp t => fget fr t
  | .const v => ofV v
  | .global _ => .junk
  | .func f => .fn f []

def evs (fr : List AV) : List Operand → List AV
  | [] => []
  | o :: os => ev fr o :: evs fr os

/-! ### Substitution of an own slice -/
mutual
def sub (k : Nat) (r : AV) : AV → AV
  | .sl j => if Nat.beq j k then r else .sl j
  | .slp j sz i => if Nat.beq j k then .junk else .slp j sz i
  | .agg cs => .agg (subL k r cs)
  | .tup cs => .tup (subL k r cs)
  | .fn f cs => .fn f (subL k r cs)
  | .bnd f cs => .bnd f (subL k r cs)
  | .sv j sz a b => if Nat.beq j k then .junk else .sv j sz a b
  | v => v
def subL (k : Nat) (r : AV) : List AV → List AV
  | [] => []
  | c :: cs => sub k r c :: subL k r cs
end

def subF (k : Nat) (r : AV) : List (List AV) → List (List AV)
  | [] => []
  | f :: fs => subL k r f :: subF k r fs

def subH (k : Nat) (r : AV) : List Blk → List Blk
  | [] => []
  | .cells cs :: h => .cells (subL k r cs) :: subH k r h
  | .loop f p ph ts :: h => .loop f p ph (subL k r ts) :: subH k r h
  | b :: h => b :: subH k r h

def subB (k : Nat) (r : AV) : Blk → Blk
  | .cells cs => .cells (subL k r cs)
  | .loop f p ph ts => .loop f p ph (subL k r ts)
  | b => b

def St.sub (s : St) (k : Nat) (r : AV) : St := { top := subL k r s.top, below := subF k r s.below, heap := subH k r s.heap }

/-- An own slice is given away: it is data from now on. -/
def St.freeze (s : St) (k : Nat) : St :=
  match hget s.heap k with
  | .grow _ e xs =>
    let s' := s.sub k (.d (.arr e) xs)
    { s' with heap := hset s'.heap k .gone }
  | _ => s

def refs1 : AV → List Nat
  | .sl k => [k]
  | _ => []

def refsL : List AV → List Nat
  | [] => []
  | c :: cs => refs1 c ++ refsL cs

def refs : AV → List Nat
  | .agg cs => refsL cs
  | v => refs1 v

def refsA : List AV → List Nat
  | [] => []
  | c :: cs => refs c ++ refsA cs

def noRefs' (l : List AV) : Bool := match refsA l with | [] => true | _ => false

def St.freezeAll (s : St) : List Nat → St
  | [] => s
  | k :: ks => (s.freeze k).freezeAll ks

/-! ### An abstract value as data of a type -/
def asD1 (h : List Blk) (t : Ty) : AV → Option t.den
  | .d u x => cast? u t x
  | .tt => match t with | .bool => some true | _ => none
  | .ff => match t with | .bool => some false | _ => none
  | .fs e xs => cast? (.arr e) t xs
  | .nils => match t with | .arr _ => some [] | _ => none
  | .sl k => match hget h k with
    | .grow _ e xs => cast? (.arr e) t xs
    | _ => none
  | .fn f cs => match t, cs with
    | .fnc, [] => some f
    | _, _ => none
  | _ => none

def takeN : Nat → List AV → List AV
  | 0, _ => []
  | _, [] => []
  | n + 1, a :: l => a :: takeN n l

def dropN : Nat → List AV → List AV
  | 0, l => l
  | _, [] => []
  | n + 1, _ :: l => dropN n l

def single (h : List Blk) (t : Ty) (cs : List AV) : Option t.den :=
  match cs with
  | [c] => asD1 h t c
  | _ => none

def asVec (h : List Blk) (e : Ty) : List AV → Option (List e.den)
  | [] => some []
  | c :: cs => match asD1 h e c with
    | some y => match asVec h e cs with
      | some ys => some (y :: ys)
      | none => none
    | none => none

def lenAV : List AV → Nat
  | [] => 0
  | _ :: l => lenAV l + 1

/-- Cells as data of a type. -/
def asCells (h : List Blk) : (t : Ty) → List AV → Option t.den
  | .pair a b, cs =>
    match asCells h a (takeN a.cells cs) with
    | some x => match asCells h b (dropN a.cells cs) with
      | some y => some (x, y)
      | none => none
    | none => none
  | .rose a b, cs =>
    match asCells h a (takeN a.cells cs) with
    | some x => match dropN a.cells cs with
      | c :: rest => match asD1 h (.arr (.rose a b)) c with
        | some ys => match asCells h b rest with
          | some y => some (.node (x, y) ys : Rose (a.den × b.den))
          | none => none
        | none => none
      | [] => none
    | none => none
  | .unit, cs => match cs with
    | [] => some ()
    | _ => none
  | .vec n e, cs => if e.small && Nat.beq (lenAV cs) n then asVec h e cs else none
  | .int k, cs => single h (.int k) cs
  | .bool, cs => single h .bool cs
  | .fnc, cs => single h .fnc cs
  | .any, cs => single h .any cs
  | .str, cs => single h .str cs
  | .arr e, cs => single h (.arr e) cs

def asD (h : List Blk) (t : Ty) : AV → Option t.den
  | .agg cs => if t.isAgg then asCells h t cs else none
  | v => asD1 h t v

/-- Cells that a contract does not look at are told as nothing. -/
def anyIn : Ty → Bool
  | .any => true
  | .pair a b => anyIn a || anyIn b
  | _ => false
def maskC : Ty → List AV → List AV
  | .pair a b, cs => maskC a (takeN a.cells cs) ++ maskC b (dropN a.cells cs)
  | .any, _ :: cs => .d .any () :: cs
  | _, cs => cs
def maskD (t : Ty) : AV → AV
  | .agg cs => bif anyIn t then .agg (maskC t cs) else .agg cs
  | v => v
def maskAs : List Ty → List AV → List AV
  | t :: ts, v :: vs => maskD t v :: maskAs ts vs
  | _, vs => vs

def asDs (h : List Blk) : (ts : List Ty) → List AV → Option (dens ts)
  | [], [] => some ()
  | [t], [v] => asD h t v
  | t :: u :: ts, v :: vs =>
    match asD h t v with
    | some x => match asDs h (u :: ts) vs with
      | some y => some (x, y)
      | none => none
    | none => none
  | _, _ => none

def outs : (ts : List Ty) → dens ts → List AV
  | [], _ => []
  | [t], x => [.d t x]
  | t :: u :: ts, x => .d t x.1 :: outs (u :: ts) x.2

def outV (ts : List Ty) (x : dens ts) : AV :=
  match outs ts x with
  | [v] => v
  | vs => .tup vs

def flats : List Ty → Bool
  | [] => true
  | t :: ts => t.flat && flats ts

/-! ### Contracts, loops -/
structure FSpec where
  ps : List Ty
  rs : List Ty
  pre : dens ps → Prop
  post : dens ps → dens rs

/-- A function that hands back a slice of its own. -/
structure GSpec where
  ps : List Ty
  tid : TypeId
  e : Ty
  pre : dens ps → Prop
  post : dens ps → List e.den

/-- A function that sorts a slice by a function. -/
structure MSpec where
  tid : TypeId
  cmp : FuncId
  f : List (Int × Int) → List Int → List Int
structure SSpec where
  tid : TypeId
  e : Ty
  cmp : FuncId
  f : List e.den → List e.den

/-- An iterator: what it has captured, what it yields. -/
structure ISpec where
  ps : List Ty
  ys : List Ty
  pre : dens ps → Prop
  items : dens ps → List (tyOf ys).den
/-- What is captured: read only. -/
def rps : (ts : List Ty) → dens ts → List AV
  | [], _ => []
  | [t], x => [.rp t x]
  | t :: u :: ts, x => .rp t x.1 :: rps (u :: ts) x.2
def asRp (t : Ty) : AV → Option t.den
  | .rp u x => cast? u t x
  | _ => none
def asRps : (ts : List Ty) → List AV → Option (dens ts)
  | [], [] => some ()
  | [t], [v] => asRp t v
  | t :: u :: ts, v :: vs => match asRp t v with
    | none => none
    | some x => match asRps (u :: ts) vs with
      | none => none
      | some y => some (x, y)
  | _, _ => none

/-- .. as data. -/
def GSpec.data (g : GSpec) : FSpec := ⟨g.ps, [.arr g.e], g.pre, g.post⟩

inductive LA where
  | slot (i : Nat) (t : Ty)
  | cell (k off : Nat) (t : Ty)
  | gslot (i : Nat) (tid : TypeId) (e : Ty)
  | gcell (k off : Nat) (tid : TypeId) (e : Ty)
  | keep (k : Nat) (tid : TypeId) (e : Ty)
  | kmp (k : Nat) (e : Ty)
  | kit (k : Nat) (e : Ty)

def LA.ty : LA → Ty
  | .slot _ t | .cell _ _ t => t
  | .gslot _ _ e | .gcell _ _ _ e | .keep _ _ e => .arr e
  | .kmp _ e | .kit _ e => .arr (.pair (.int .i64) e)

def laTys : List LA → List Ty
  | [] => []
  | a :: as => a.ty :: laTys as

/-- A closure that works on blocks that it has captured: its arguments and results are data; las: which cells of the blocks vary; h: the blocks. -/
structure HSpec where
  ps : List Ty
  rs : List Ty
  las : List LA
  cap : List AV
  h : dens (laTys las) → List Blk
  pre : dens ps → dens (laTys las) → Prop
  post : dens ps → dens (laTys las) → dens rs
  aft : dens ps → dens (laTys las) → dens (laTys las)

/-- What becomes of a test whose outcome is not told: both ways; it is shown that it holds, or that it does not; the kernel reckons it. -/
inductive Mode where
  | split | yes | no | force | all

def Mode.flip : Mode → Mode
  | .yes => .no
  | .no => .yes
  | m => m

def splitB (m : Mode) (b : Bool) (p q : Prop) : Prop :=
  match m with
  | .split => (b = true → p) ∧ (b = false → q)
  | .yes => b = true ∧ p
  | .no => b = false ∧ q
  | .force => match b with | true => p | false => q
  | .all => (b = true → p) ∧ (b = false → q)

theorem splitB_sound {m : Mode} {b : Bool} {p q : Prop} (h : splitB m b p q) : (b = true → p) ∧ (b = false → q) := by
  cases m <;> cases b <;> simp_all [splitB]

/-- What is said of a function's text ahead of its walk: its loops' annotations, the tests in its regions and of its branches, which loops are walked round by round. -/
structure Hint where
  las : Nat → List LA
  mode : Nat → Mode
  cmode : Nat → Mode
  unr : Nat → Nat

def Hint.cond (H : Hint) : Operand → Mode
  | .tmp t => H.cmode t
  | _ => .split

structure Ctx where
  P : Program
  spec : FuncId → Option FSpec
  hint : FuncId → Hint
  ty : TypeId → Option Ty
  fresh : FuncId → Option GSpec
  ro : TypeId → Bool
  sorts : FuncId → Option SSpec := fun _ => none
  nilG : FuncId → Option GSpec := fun _ => none
  iters : FuncId → Option ISpec := fun _ => none
  sortsM : FuncId → Option MSpec := fun _ => none
  procs : FuncId → Option HSpec := fun _ => none

/-- Whether values of a type are aggregates; how many cells they have. -/
def Ctx.lay (C : Ctx) (t : TypeId) : Option (Bool × Nat) :=
  match C.P.info? t with
  | none => none
  | some i => match C.P.underlying t with
    | some (.struct _) => some (true, i.size)
    | some (.array _ _) => some (true, i.size)
    | some _ => if Nat.beq i.size 1 then some (false, 1) else none
    | none => none

def Ctx.size (C : Ctx) (t : TypeId) : Option Nat :=
  match C.P.info? t with
  | some i => some i.size
  | none => none

def Ctx.zero (C : Ctx) (t : TypeId) : Option AV :=
  match C.P.info? t with
  | some i => match i.zero with
    | some v => some (ofV v)
    | none => none
  | none => none

/-! ### A type of the program against a type of data -/
mutual
def okT (P : Program) : Ty → TypeId → Bool
  | .int k, t => match P.underlying t with | some (.int k') => decide (k' = k) | _ => false
  | .bool, t => match P.underlying t with | some .bool => true | _ => false
  | .str, t => match P.underlying t with | some .string => true | _ => false
  | .arr e, t => match P.underlying t with
    | some (.slice et) => Nat.beq (P.cellsOf et) e.cells && Nat.ble 1 e.cells && okT P e et
    | _ => false
  | .vec n e, t => match P.underlying t with
    | some (.array m et) => Nat.beq m n && Nat.beq (P.cellsOf et) e.cells && Nat.beq (P.cellsOf t) (n * e.cells) && okT P e et
    | _ => false
  | .unit, _ => false
  | .fnc, _ => false
  | .any, _ => false
  | .rose a b, t => match P.underlying t with
    | some (.struct fs) => Nat.beq (P.cellsOf t) (a.cells + 1 + b.cells) && okA P a fs.toList 0 (fun fs off => match fs with
      | f :: fs => Nat.beq f.offset off && Nat.beq (P.cellsOf f.type) 1 && (match P.underlying f.type with
          | some (.slice et) => Nat.beq et t
          | _ => false) && okF P b fs (off + 1)
      | [] => false)
    | _ => false
  | .pair a b, t => match P.underlying t with
    | some (.struct fs) => match fs.toList with
      | f :: fs => Nat.beq (P.cellsOf t) (a.cells + b.cells) && Nat.beq f.offset 0 && Nat.beq (P.cellsOf f.type) a.cells && okT P a f.type && okF P b fs a.cells
      | [] => false
    | _ => false
def okA (P : Program) : Ty → List Field → Nat → (List Field → Nat → Bool) → Bool
  | .pair a b, fs, off, k => match fs with
    | f :: fs => Nat.beq f.offset off && Nat.beq (P.cellsOf f.type) a.cells && okT P a f.type && okA P b fs (off + a.cells) k
    | [] => false
  | .unit, fs, off, k => k fs off
  | _, _, _, _ => false
def okF (P : Program) : Ty → List Field → Nat → Bool
  | .pair a b, fs, off => match fs with
    | f :: fs => Nat.beq f.offset off && Nat.beq (P.cellsOf f.type) a.cells && okT P a f.type && okF P b fs (off + a.cells)
    | [] => false
  | .unit, fs, _ => match fs with | [] => true | _ => false
  | _, _, _ => false
end

def okTs (P : Program) : List Ty → List TypeId → Bool
  | [], [] => true
  | a :: as, t :: ts => okT P a t && okTs P as ts
  | _, _ => false

/-! ### Equality of data -/
def eqOk : Ty → Bool
  | .int _ | .bool | .str | .unit => true
  | .vec _ (.int _) => true
  | .pair a b => eqOk a && eqOk b
  | _ => false

def eqD : (t : Ty) → t.den → t.den → Bool
  | .int _, x, y => decide ((x : Int) = y)
  | .bool, x, y => x == y
  | .str, x, y => decide ((x : List Int) = y)
  | .vec _ (.int _), x, y => decide ((x : List Int) = y)
  | .pair a b, x, y => eqD a x.1 y.1 && eqD b x.2 y.2
  | .unit, _, _ => true
  | _, _, _ => false

/-! ### Operations -/
structure Out where
  need : Option Prop
  v : AV
  heap : List Blk
  kill : Option Nat

def cellsOf : AV → Option (List AV)
  | .agg cs => some cs
  | .junk | .und | .tup _ => none
  | .sl k => some [.sl k]
  | .d t x => if t.isAgg then none else some [.d t x]
  | v => some [v]

def vecCells (e : Ty) (xs : List e.den) : Nat → Nat → List AV
  | _, 0 => []
  | i, m + 1 => .d e (xs.getD i (dflt e)) :: vecCells e xs (i + 1) m

/-- The cells of data of an aggregate type. -/
def splitD : (t : Ty) → t.den → Option (List AV)
  | .pair a b, x =>
    match splitD a x.1 with
    | some l => match splitD b x.2 with
      | some m => some (l ++ m)
      | none => none
    | none => none
  | .unit, _ => some []
  | .rose a b, x =>
    match splitD a (x : Rose (a.den × b.den)).val.1 with
    | some l => match splitD b (x : Rose (a.den × b.den)).val.2 with
      | some m => some (l ++ .d (.arr (.rose a b)) (x : Rose (a.den × b.den)).subs :: m)
      | none => none
    | none => none
  | .vec n e, x => if e.small then some (vecCells e x 0 n) else none
  | t, x => some [.d t x]

def cellsOf' : AV → Option (List AV)
  | .d t x => splitD t x
  | v => cellsOf v

def subD : (t : Ty) → t.den → (off sz : Nat) → (ag : Bool) → Option AV
  | .pair a b, x, off, sz, ag =>
    if Nat.beq off 0 && Nat.beq (a.cells + b.cells) sz && ag then some (.d (.pair a b) x)
    else if Nat.ble (off + sz) a.cells then subD a x.1 off sz ag
    else if Nat.ble a.cells off then subD b x.2 (off - a.cells) sz ag
    else none
  | .rose a b, x, off, sz, ag =>
    if Nat.beq off 0 && Nat.beq (a.cells + 1 + b.cells) sz && ag then some (.d (.rose a b) x)
    else if Nat.ble (off + sz) a.cells then subD a (x : Rose (a.den × b.den)).val.1 off sz ag
    else if Nat.beq off a.cells && Nat.beq sz 1 && !ag then some (.d (.arr (.rose a b)) (x : Rose (a.den × b.den)).subs)
    else if Nat.ble (a.cells + 1) off then subD b (x : Rose (a.den × b.den)).val.2 (off - (a.cells + 1)) sz ag
    else none
  | t, x, off, sz, ag => if Nat.beq off 0 && Nat.beq t.cells sz && (t.isAgg == ag) then some (.d t x) else none

/-- The last field of a struct: data of the field's type, not of the rest of the struct. -/
def peel (off : Nat) : AV → AV
  | .d (.pair a .unit) x => bif Nat.ble 1 off && a.isAgg then .d a x.1 else .d (.pair a .unit) x
  | v => v
def subP (t : Ty) (x : t.den) (off sz : Nat) (ag : Bool) : Option AV :=
  match subD t x off sz ag with
  | some v => some (peel off v)
  | none => none

def toRp : AV → Option AV
  | .d t x => some (.rp t x)
  | _ => none

def listLen : List AV → Nat
  | [] => 0
  | _ :: l => listLen l + 1

def hlen : List Blk → Nat
  | [] => 0
  | _ :: l => hlen l + 1

def setCells : List AV → Nat → List AV → List AV
  | cs, _, [] => cs
  | cs, off, v :: vs => setCells (fset cs off v) (off + 1) vs

def isI64 (n : Int) : Prop := -9223372036854775808 ≤ n ∧ n ≤ 9223372036854775807

def boolAV (b : Bool) : AV := .d .bool b

def asB : AV → Option Bool
  | .tt => some true
  | .ff => some false
  | .d .bool b => some b
  | _ => none

def ok0 (h : List Blk) (v : AV) : Option Out := some ⟨none, v, h, none⟩
def okP (h : List Blk) (p : Prop) (v : AV) : Option Out := some ⟨some p, v, h, none⟩

/-- An integer's operation: int's own are asked to fit; all others wrap. -/
def arith (h : List Blk) (k : IntKind) (n : Int) : Option Out :=
  match k with
  | .i64 => okP h (isI64 n) (.d (.int .i64) n)
  | k => ok0 h (.d (.int k) (k.wrap n))

def bitsOp (op : BinOp) (k : IntKind) (a b : Int) : Int :=
  match op with
  | .and => k.wrap (BitVec.ofInt k.bits a &&& BitVec.ofInt k.bits b).toNat
  | .or => k.wrap (BitVec.ofInt k.bits a ||| BitVec.ofInt k.bits b).toNat
  | .xor => k.wrap (BitVec.ofInt k.bits a ^^^ BitVec.ofInt k.bits b).toNat
  | _ => k.wrap (BitVec.ofInt k.bits a &&& ~~~(BitVec.ofInt k.bits b)).toNat

def ibin (h : List Blk) (op : BinOp) (k k' : IntKind) (a b : Int) : Option Out :=
  match op with
  | .shl => match k with
    | .i64 => okP h (0 ≤ b ∧ b ≤ 63 ∧ isI64 (a * 2 ^ b.toNat)) (.d (.int .i64) (a * 2 ^ b.toNat))
    | k => okP h (0 ≤ b ∧ b ≤ k.bits) (.d (.int k) (k.wrap (a * 2 ^ b.toNat)))
  | .shr => okP h (0 ≤ b ∧ b ≤ k.bits) (.d (.int k) (a / 2 ^ b.toNat))
  | op => if k = k' then
      match op with
      | .add => arith h k (a + b)
      | .sub => arith h k (a - b)
      | .mul => arith h k (a * b)
      | .quo => match k with
        | .i64 => okP h (b ≠ 0 ∧ isI64 (a.tdiv b)) (.d (.int .i64) (a.tdiv b))
        | k => okP h (b ≠ 0) (.d (.int k) (k.wrap (a.tdiv b)))
      | .rem => okP h (b ≠ 0) (.d (.int k) (a.tmod b))
      | .and => ok0 h (.d (.int k) (bitsOp .and k a b))
      | .or => ok0 h (.d (.int k) (bitsOp .or k a b))
      | .xor => ok0 h (.d (.int k) (bitsOp .xor k a b))
      | .andNot => ok0 h (.d (.int k) (bitsOp .andNot k a b))
      | .eql => ok0 h (boolAV (decide (a = b)))
      | .neq => ok0 h (boolAV (!decide (a = b)))
      | .lss => ok0 h (boolAV (decide (a < b)))
      | .leq => ok0 h (boolAV (decide (a ≤ b)))
      | .gtr => ok0 h (boolAV (decide (b < a)))
      | .geq => ok0 h (boolAV (decide (b ≤ a)))
      | _ => none
    else none

def isBoolT (C : Ctx) (t : TypeId) : Bool :=
  match C.P.underlying t with
  | some .bool => true
  | _ => false

def abin (C : Ctx) (h : List Blk) (op : BinOp) (xt : TypeId) (x y : AV) : Option Out :=
  match x, y with
  | .d (.int k) a, .d (.int k') b => ibin h op k k' a b
  | .d .str a, .d .str b =>
    match op with
    | .eql => ok0 h (boolAV (decide (a = b)))
    | .neq => ok0 h (boolAV (!decide (a = b)))
    | _ => none
  | x, y =>
    if isBoolT C xt then
      match asB x, asB y, op with
      | some a, some b, .eql => ok0 h (boolAV (a == b))
      | some a, some b, .neq => ok0 h (boolAV (a != b))
      | _, _, _ => none
    else none

/-- Two structs or arrays, whether they are equal. -/
def abinAgg (C : Ctx) (h : List Blk) (op : BinOp) (xt : TypeId) (x y : AV) : Option Out :=
  match C.ty xt with
  | some ty => if ty.isAgg && eqOk ty && okT C.P ty xt && C.P.keyTypeAt 100 xt && !(C.P.eqGuardType C.P.depth xt) && noRefs' [x, y] then
      match asD h ty x, asD h ty y with
      | some a, some b => match op with
        | .eql => ok0 h (boolAV (eqD ty a b))
        | .neq => ok0 h (boolAV (!eqD ty a b))
        | _ => none
      | _, _ => none
    else none
  | none => none

def aun (h : List Blk) (op : UnOp) (x : AV) : Option Out :=
  match op, x with
  | .not, .tt => ok0 h .ff
  | .not, .ff => ok0 h .tt
  | .not, .d .bool b => ok0 h (boolAV (!b))
  | .neg, .d (.int k) n => arith h k (0 - n)
  | _, _ => none

/-- What a slice reads as. -/
def asList (h : List Blk) : AV → Option ((e : Ty) × List e.den)
  | .d (.arr e) xs => some ⟨e, xs⟩
  | .fs e xs => some ⟨e, xs⟩
  | .sl k => match hget h k with
    | .grow _ e xs => some ⟨e, xs⟩
    | _ => none
  | _ => none

def alen (C : Ctx) (h : List Blk) (t : TypeId) (x : AV) : Option Out :=
  match C.P.underlying t, x with
  | some .string, .d .str l => ok0 h (.d (.int .i64) (l.length : Int))
  | some (.slice _), .nils => ok0 h (.d (.int .i64) (0 : Int))
  | some (.slice _), x => match asList h x with
    | some ⟨_, xs⟩ => ok0 h (.d (.int .i64) (xs.length : Int))
    | none => none
  | some (.map _ _), .sl k => match hget h k with
    | .dmap _ mm => some ⟨some ((mm.length : Int) ≤ 9223372036854775807), .d (.int .i64) (mm.length : Int), h, none⟩
    | _ => none
  | _, _ => none

def foldMin (k : IntKind) : List AV → Int → Option Int
  | [], n => some n
  | .d (.int k') m :: l, n => if k' = k then foldMin k l (min n m) else none
  | _, _ => none
def foldMax (k : IntKind) : List AV → Int → Option Int
  | [], n => some n
  | .d (.int k') m :: l, n => if k' = k then foldMax k l (max n m) else none
  | _, _ => none

/-- The elements that an append appends. -/
def asTail (C : Ctx) (h : List Blk) (e : Ty) (t : TypeId) (y : AV) : Option (List e.den) :=
  match C.P.underlying t, y with
  | some (.slice _), .nils => some []
  | some .string, .d .str l => cast? (.arr (.int .u8)) (.arr e) l
  | some (.slice _), x => match asList h x with
    | some ⟨u, xs⟩ => cast? (.arr u) (.arr e) xs
    | none => none
  | _, _ => none

def elemOf (C : Ctx) (t : TypeId) : Option TypeId :=
  match C.P.underlying t with
  | some (.slice e) => some e
  | _ => none

/-- A type's zero value has as many cells as its data. -/
def zeroOk (e : Ty) (z : AV) : Bool :=
  match cellsOf' z with
  | some l => Nat.beq (listLen l) e.cells
  | none => false

def roomP (C : Ctx) (tid : TypeId) (n : Nat) : Prop := n * (C.P.bytesOf tid) ≤ 140737488355328 ∧ n ≤ 9223372036854775807

/-- Whether an append to a slice of full capacity looks at the tail first. -/
def Ctx.tailFirst (C : Ctx) : Bool := Nat.beq ((C.hint 999999999).unr 0) 77

def aappendTo (C : Ctx) (h : List Blk) (tx tid : TypeId) (sz : Nat) (z : AV) (x y : AV) : Option Out :=
  match x with
  | .nils =>
    match C.ty tid with
    | none => none
    | some e =>
    match asTail C h e tx y with
    | some ys => if Nat.beq e.cells sz && zeroOk e z then some ⟨some (roomP C tid ys.length), .sl (hlen h), h ++ [.grow tid e ys], none⟩ else none
    | none => none
  | .sl k =>
    match hget h k with
    | .grow tid' e xs =>
      match asTail C h e tx y with
      | some ys =>
        if Nat.beq tid tid' && Nat.beq e.cells sz && zeroOk e z then
          some ⟨some (roomP C tid (xs.length + ys.length)), .sl k, hset h k (.grow tid e (xs ++ ys)), some k⟩
        else none
      | none => none
    | _ => none
  | .fs e xs =>
    match asTail C h e tx y with
    | some ys =>
      if Nat.beq e.cells sz && zeroOk e z then
        bif C.tailFirst then
          match ys with
          | [] => some ⟨none, .fs e xs, h, none⟩
          | y :: ys => some ⟨some (roomP C tid (xs.length + (y :: ys).length)), .sl (hlen h), h ++ [.grow tid e (xs ++ y :: ys)], none⟩
        else match xs, ys with
        | [], ys => some ⟨some (roomP C tid ys.length), .sl (hlen h), h ++ [.grow tid e ys], none⟩
        | x :: xs, y :: ys => some ⟨some (roomP C tid ((x :: xs).length + (y :: ys).length)), .sl (hlen h), h ++ [.grow tid e (x :: xs ++ y :: ys)], none⟩
        | _ :: _, [] => none
      else none
    | none => none
  | _ => none

def aappend (C : Ctx) (h : List Blk) (t tx : TypeId) (x y : AV) : Option Out :=
  match elemOf C t with
  | none => none
  | some tid =>
    match C.size tid, C.zero tid with
    | some sz, some z => aappendTo C h tx tid sz z x y
    | _, _ => none

def ainterp (low high max : Option AV) : Option (Int × Option Int × Option Int) :=
  match low, high, max with
  | none, none, none => some (0, none, none)
  | some (.d (.int _) l), none, none => some (l, none, none)
  | none, some (.d (.int _) n), none => some (0, some n, none)
  | some (.d (.int _) l), some (.d (.int _) n), none => some (l, some n, none)
  | none, some (.d (.int _) n), some (.d (.int _) m) => some (0, some n, some m)
  | some (.d (.int _) l), some (.d (.int _) n), some (.d (.int _) m) => some (l, some n, some m)
  | _, _, _ => none

def arrayOf (C : Ctx) (t : TypeId) : Option (Nat × TypeId) :=
  match C.P.underlying t with
  | some (.array n e) => some (n, e)
  | _ => none

/-- A whole array that is only read, as a slice. -/
def asliceArr (C : Ctx) (h : List Blk) (t : TypeId) (x : AV) (low high max : Option AV) : Option Out :=
  match arrayOf C t, low, high, max with
  | some (n, et), none, none, none => match C.size et, x with
    | some sz, .rp (.vec m e) xs => if Nat.beq e.cells sz && Nat.beq m n && Nat.ble n 16777216 then ok0 h (.fs e xs) else none
    | _, _ => none
  | _, _, _, _ => none

def aslice0 (C : Ctx) (h : List Blk) (t : TypeId) (x : AV) (low high max : Option AV) : Option Out :=
  match ainterp low high max with
  | none => none
  | some (l, hi, mx) =>
    match C.P.underlying t, x with
    | some .string, .d .str s =>
      match hi, mx with
      | none, none => okP h (0 ≤ l ∧ l ≤ s.length) (.d .str (s.drop l.toNat))
      | some n, none => okP h (0 ≤ l ∧ l ≤ n ∧ n ≤ s.length) (.d .str ((s.drop l.toNat).take (n.toNat - l.toNat)))
      | _, _ => none
    | some (.slice _), .sl _ => none
    | some (.slice tid), x =>
      match asList h x, C.size tid with
      | some ⟨e, xs⟩, some sz =>
        if Nat.beq sz e.cells then
          match hi, mx with
          | none, none => okP h (0 ≤ l ∧ l ≤ xs.length) (.d (.arr e) ((xs.drop l.toNat).take (xs.length - l.toNat)))
          | some n, none => okP h (0 ≤ l ∧ l ≤ n ∧ n ≤ xs.length) (.d (.arr e) ((xs.drop l.toNat).take (n.toNat - l.toNat)))
          | some n, some m => okP h (0 ≤ l ∧ l ≤ n ∧ n ≤ xs.length ∧ m = n) (.fs e ((xs.drop l.toNat).take (n.toNat - l.toNat)))
          | _, _ => none
        else none
      | _, _ => none
    | _, _ => none

/-- Whether own slices are sliced as views. -/
def Ctx.views (C : Ctx) : Bool := Nat.beq ((C.hint 999999999).unr 1) 1

def endOf (n : Nat) : Option Int → Int
  | none => n
  | some i => i

/-- A part of an own slice, to be looked at or copied to. -/
def asliceV (C : Ctx) (h : List Blk) (t : TypeId) (k : Nat) (low high max : Option AV) : Option Out :=
  match ainterp low high max with
  | some (l, hi, none) =>
    match C.P.underlying t, hget h k with
    | some (.slice tid), .grow _ e xs => match C.size tid with
      | some sz => if Nat.beq sz e.cells then okP h (0 ≤ l ∧ l ≤ endOf xs.length hi ∧ endOf xs.length hi ≤ xs.length ∧ l < xs.length) (.sv k sz l (endOf xs.length hi)) else none
      | none => none
    | _, _ => none
  | _ => none

def aslice (C : Ctx) (h : List Blk) (t : TypeId) (x : AV) (low high max : Option AV) : Option Out :=
  match x with
  | .rp _ _ => asliceArr C h t x low high max
  | .sl k => bif C.views then asliceV C h t k low high max else aslice0 C h t (.sl k) low high max
  | x => aslice0 C h t x low high max

/-- What a copy reads. -/
def asSrc (h : List Blk) : AV → Option ((e : Ty) × List e.den)
  | .sv k sz lo hi => match hget h k with
    | .grow _ e xs => if Nat.beq sz 1 then some ⟨e, (xs.drop lo.toNat).take (hi.toNat - lo.toNat)⟩ else none
    | _ => none
  | x => asList h x

/-- What a copy writes: an own slice, from a place to another one. -/
def asDst (h : List Blk) : AV → Option (Nat × Int × Int)
  | .sl k => match hget h k with
    | .grow _ _ xs => some (k, 0, xs.length)
    | _ => none
  | .sv k sz lo hi => if Nat.beq sz 1 then some (k, lo, hi) else none
  | _ => none

def acopy (C : Ctx) (h : List Blk) (t : TypeId) (x y : AV) : Option Out :=
  match elemOf C t, asDst h x, asSrc h y with
  | some tid, some (k, lo, hi), some ⟨u, ys0⟩ =>
    match C.size tid, hget h k with
    | some sz, .grow tid' e xs =>
      match cast? (.arr u) (.arr e) ys0 with
      | some ys =>
        if Nat.beq sz 1 && Nat.beq e.cells 1 then
          some ⟨some (0 < xs.length ∧ 0 < ys.length ∧ 0 ≤ lo ∧ lo ≤ hi ∧ hi ≤ xs.length), .d (.int .i64) ((min (hi.toNat - lo.toNat) ys.length : Nat) : Int),
            hset h k (.grow tid' e (xs.take lo.toNat ++ ys.take (min (hi.toNat - lo.toNat) ys.length) ++ xs.drop (lo.toNat + min (hi.toNat - lo.toNat) ys.length))), none⟩
        else none
      | none => none
    | _, _ => none
  | _, _, _ => none

def abuiltin (C : Ctx) (h : List Blk) (b : Builtin) (ts : List TypeId) (args : List AV) : Option Out :=
  match b, args with
  | .len, [x] => match ts with | [t] => alen C h t x | _ => none
  | .min, .d (.int kd) n :: l => match foldMin kd l n with | some m => ok0 h (.d (.int kd) m) | none => none
  | .max, .d (.int kd) n :: l => match foldMax kd l n with | some m => ok0 h (.d (.int kd) m) | none => none
  | .append, [x, y] => match ts with | [t, tx] => aappend C h t tx x y | _ => none
  | .copy, [x, y] => match ts with | [t, _] => acopy C h t x y | _ => none
  | _, _ => none

def partsOf (e : Ty) (h : List Blk) : List AV → Option (List e.den)
  | [] => some []
  | v :: vs => match asD h e v with
    | some x => match partsOf e h vs with
      | some xs => some (x :: xs)
      | none => none
    | none => none

/-- The parts of a literal are numbered 0, 1, .. -/
def inOrder : Nat → List (Nat × Operand) → Bool
  | _, [] => true
  | n, (i, _) :: l => Nat.beq i n && inOrder (n + 1) l

def seconds : List (Nat × Operand) → List Operand
  | [] => []
  | (_, o) :: l => o :: seconds l

def fillA (place : Nat → Option (Nat × Nat)) (cs : List AV) : List (Nat × AV) → Option (List AV)
  | [] => some cs
  | (i, v) :: rest =>
    match place i with
    | none => none
    | some (off, size) =>
      match cellsOf' v with
      | none => none
      | some l => if Nat.beq (listLen l) size && Nat.ble (off + size) (listLen cs) then fillA place (setCells cs off l) rest else none

def evParts (fr : List AV) : List (Nat × Operand) → List (Nat × AV)
  | [] => []
  | (i, o) :: l => (i, ev fr o) :: evParts fr l

def optEv (fr : List AV) : Option Operand → Option AV
  | none => none
  | some o => some (ev fr o)

def fieldOf (C : Ctx) (t : TypeId) (f : Nat) : Option Field :=
  match C.P.underlying t with
  | some (.struct fs) => fs[f]?
  | _ => none

def loadOwn (C : Ctx) (t : TypeId) (cs : List AV) (off : Nat) : Option AV :=
  match C.lay t with
  | some (true, sz) => if Nat.ble (off + sz) (listLen cs) then some (.agg (takeN sz (dropN off cs))) else none
  | some (false, _) => if Nat.ble (off + 1) (listLen cs) then some (fget cs off) else none
  | none => none

def placesOf (C : Ctx) (fs : List Field) : Option (List (Nat × Nat)) := fs.mapM fun f => (C.P.info? f.type).map fun i => (f.offset, i.size)

def aload (C : Ctx) (h : List Blk) (t : TypeId) (x : AV) : Option Out :=
  match x with
  | .own k off => match hget h k with
    | .cells cs => match loadOwn C t cs off with
      | some v => ok0 h v
      | none => none
    | _ => none
  | .slp k sz i => match hget h k with
    | .grow _ e xs => match C.lay t with
      | some (ag, n) => if Nat.beq n e.cells && Nat.beq n sz && (ag == e.isAgg) then ok0 h (.d e (xs.getD i.toNat (dflt e))) else none
      | none => none
    | _ => none
  | .rp u x => match C.lay t with
    | some (ag, n) => if Nat.beq n u.cells && (ag == u.isAgg) then ok0 h (.d u x) else none
    | none => none
  | _ => none

def noRefs (l : List AV) : Bool := match refsA l with | [] => true | _ => false

def apick (h : List Blk) (c a b : AV) : Option Out :=
  match c with
  | .tt => ok0 h a
  | .ff => ok0 h b
  | .d .bool x => match asB a, asB b with
    | some y, some z => ok0 h (boolAV (bif x then y else z))
    | _, _ => none
  | _ => none

def abuild (C : Ctx) (h : List Blk) (t : TypeId) (parts : List (Nat × AV)) : Option Out :=
  match C.P.underlying t with
  | some (.struct fs) =>
    match C.zero t, placesOf C fs.toList with
    | some (.agg zs), some ps =>
      match fillA (fun i => ps.toArray[i]?) zs parts with
      | some cs => ok0 h (.agg cs)
      | none => none
    | _, _ => none
  | some (.array _ et) =>
    match C.zero t, C.size et with
    | some (.agg zs), some sz =>
      match fillA (fun i => some (i * sz, sz)) zs parts with
      | some cs => ok0 h (.agg cs)
      | none => none
    | _, _ => none
  | _ => none

def abuildSlice (C : Ctx) (h : List Blk) (t : TypeId) (len : Nat) (parts : List (Nat × Operand)) (vs : List AV) : Option Out :=
  match elemOf C t with
  | some tid => match C.ty tid, C.size tid with
    | some e, some sz =>
      if Nat.beq e.cells sz && inOrder 0 parts && Nat.beq (listLen vs) len && Nat.ble (len * sz) 16777216 && Nat.ble len 16777216 && noRefs vs then
        match partsOf e h vs, C.zero tid with
        | some xs, some _ => ok0 h (.fs e xs)
        | _, _ => none
      else none
    | _, _ => none
  | none => none

def astore (C : Ctx) (h : List Blk) (t : TypeId) (a x : AV) : Option Out :=
  match a with
  | .own k off => match hget h k with
    | .cells cs => match cellsOf' x, C.size t with
      | some l, some sz => if Nat.beq (listLen l) sz && Nat.ble (off + sz) (listLen cs) then some ⟨none, .und, hset h k (.cells (setCells cs off l)), none⟩ else none
      | _, _ => none
    | _ => none
  | .slp k sz i => match hget h k with
    | .grow tid e xs => match asD h e x, C.size t with
      | some y, some n => if Nat.beq n e.cells && Nat.beq n sz && noRefs [x] then some ⟨none, .und, hset h k (.grow tid e (xs.set i.toNat y)), none⟩ else none
      | _, _ => none
    | _ => none
  | _ => none

def anil (h : List Blk) (x : AV) : Option Out :=
  match x with
  | .own k off => ok0 h (.own k off)
  | .rp t x => ok0 h (.rp t x)
  | .slp k sz i => ok0 h (.slp k sz i)
  | _ => none

def aconvert (C : Ctx) (h : List Blk) (src dst : TypeId) (x : AV) : Option Out :=
  match C.P.underlying src, C.P.underlying dst with
  | some (.int _), some (.int k) => match x with
    | .d (.int j) n =>
      match k, j with
      | .i64, .i64 => ok0 h (.d (.int .i64) n)
      | k, _ => ok0 h (.d (.int k) (k.wrap n))
    | _ => none
  | some (.slice et), some .string => match C.P.underlying et with
    | some (.int .u8) => match x with
      | .nils => ok0 h (.d .str [])
      | x => match asList h x with
        | some ⟨e, xs⟩ => match cast? (.arr e) (.arr (.int .u8)) xs with
          | some ys => ok0 h (.d .str ys)
          | none => none
        | none => none
    | _ => none
  | _, _ => none

def amake (C : Ctx) (h : List Blk) (t : TypeId) (l c : AV) : Option Out :=
  match elemOf C t with
  | some tid => match C.ty tid, C.size tid, C.zero tid, l, c with
    | some e, some sz, some z, .d (.int .i64) n, .d (.int .i64) m =>
      if Nat.beq e.cells sz && zeroOk e z then
        match asD [] e z with
        | some x => some ⟨some (0 ≤ n ∧ n ≤ m ∧ roomP C tid m.toNat), .sl (hlen h), h ++ [.grow tid e (List.replicate n.toNat x)], none⟩
        | none => none
      else none
    | _, _, _, _, _ => none
  | none => none

def afieldAddr (C : Ctx) (h : List Blk) (t : TypeId) (x : AV) (f : Nat) : Option Out :=
  match fieldOf C t f with
  | some fd => match C.lay fd.type with
    | some (ag, sz) => match x with
      | .own k off => if Nat.ble 1 sz then ok0 h (.own k (off + fd.offset)) else none
      | .rp u y => if Nat.ble 1 sz then match subP u y fd.offset sz ag with
        | some (.d u' y') => ok0 h (.rp u' y')
        | _ => none
        else none
      | _ => none
    | none => none
  | none => none

def afield (C : Ctx) (h : List Blk) (t : TypeId) (x : AV) (f : Nat) : Option Out :=
  match fieldOf C t f with
  | some fd => match C.lay fd.type with
    | some (ag, sz) => match x with
      | .agg cs => match loadOwn C fd.type cs fd.offset with
        | some v => ok0 h v
        | none => none
      | .d u y => if u.isAgg then
          match subP u y fd.offset sz ag with
          | some v => ok0 h v
          | none => none
        else none
      | _ => none
    | none => none
  | none => none

def aindexArr (C : Ctx) (h : List Blk) (t : TypeId) (x : AV) (i : Int) : Option Out :=
  match arrayOf C t with
  | some (n, et) => match C.size et with
    | some sz => match x with
      | .own k off => okP h (0 ≤ i ∧ i < (n : Int)) (.own k (off + i.toNat * sz))
      | .rp (.vec m e) xs => if Nat.beq e.cells sz && Nat.beq m n then okP h (0 ≤ i ∧ i < (n : Int)) (.rp e (xs.getD i.toNat (dflt e))) else none
      | _ => none
    | none => none
  | none => none

def aindexAddr (C : Ctx) (h : List Blk) (t : TypeId) (x ix : AV) : Option Out :=
  match elemOf C t, ix with
  | some tid, .d (.int _) i => match C.size tid with
    | some sz => match x with
      | .sl k => match hget h k with
        | .grow _ e xs => if Nat.beq e.cells sz then okP h (0 ≤ i ∧ i < xs.length) (.slp k sz i) else none
        | _ => none
      | x => match asList h x with
        | some ⟨e, xs⟩ => if Nat.beq e.cells sz then okP h (0 ≤ i ∧ i < xs.length) (.rp e (xs.getD i.toNat (dflt e))) else none
        | none => none
    | none => none
  | none, .d (.int _) i => aindexArr C h t x i
  | _, _ => none

def aindex (C : Ctx) (h : List Blk) (t : TypeId) (x ix : AV) : Option Out :=
  match C.P.underlying t, x, ix with
  | some .string, .d .str s, .d (.int _) i => okP h (0 ≤ i ∧ i < s.length) (.d (.int .u8) (s.getD i.toNat 0))
  | _, _, _ => none

/-- A slice's beginning, as an array that is only read. -/
def aarrayAt (C : Ctx) (h : List Blk) (t : TypeId) (x : AV) : Option Out :=
  match arrayOf C t with
  | some (n, et) => match C.size et with
    | some sz => match x with
      | .sl _ => none
      | x => match asList h x with
        | some ⟨e, xs⟩ => if Nat.beq e.cells sz && Nat.ble 1 n then okP h ((n : Int) ≤ xs.length) (.rp (.vec n e) (xs.take n)) else none
        | none => none
    | none => none
  | none => none

def aextract (h : List Blk) (x : AV) (i : Nat) : Option Out :=
  match x with
  | .tup cs => if Nat.ble (i + 1) (listLen cs) then ok0 h (fget cs i) else none
  | _ => none

/-- A zero value that the state does not tell, of one cell. -/
def zeroOne (C : Ctx) (t : TypeId) : Bool := match C.P.info? t with
  | some i => match i.zero with
    | some v => v.oneCell'
    | none => false
  | none => false
def aalloc (C : Ctx) (h : List Blk) (t : TypeId) : Option Out :=
  match C.zero t with
  | some z => match cellsOf' z with
    | some cs => some ⟨none, .own (hlen h) 0, h ++ [.cells cs], none⟩
    | none => if zeroOne C t then some ⟨none, .own (hlen h) 0, h ++ [.cells [.junk]], none⟩ else none
  | none => none

/-- A box that is only read. -/
def abox' (C : Ctx) (h : List Blk) (t : TypeId) (x : AV) : Option Out :=
  match x with
  | .d u y => if C.ro t then ok0 h (.rp u y) else none
  | .agg cs => if C.ro t then match refs (.agg cs) with
      | [] => match C.ty t with
        | some u => match asD h u (.agg cs) with
          | some y => ok0 h (.rp u y)
          | none => none
        | none => none
      | _ => none
    else none
  | _ => none

def abox (h : List Blk) (x : AV) : Option Out :=
  match cellsOf' x with
  | some cs => some ⟨none, .own (hlen h) 0, h ++ [.cells cs], none⟩
  | none => none

/-- A map with integers as keys: its elements' type. -/
def intMap (C : Ctx) (t : TypeId) : Option TypeId :=
  match C.P.underlying t with
  | some (.map kt et) => match C.P.underlying kt with
    | some (.int .i64) => some et
    | _ => none
  | _ => none

def notInK (n : Int) : List (Int × FuncId) → Bool
  | [] => true
  | (m, _) :: es => !(decide (n = m)) && notInK n es

def ainsert (C : Ctx) (h : List Blk) (t : TypeId) (m key v : AV) : Option Out :=
  match intMap C t, m, key, v with
  | some _, .sl k, .d (.int .i64) n, .fn f [] => match hget h k with
    | .kmap es => if notInK n es then some ⟨none, .und, hset h k (.kmap (es ++ [(n, f)])), none⟩ else none
    | _ => none
  | _, _, _, _ => none

/-- A map's entry is set. -/
def dinsert (C : Ctx) (h : List Blk) (t : TypeId) (m key v : AV) : Option Out :=
  match intMap C t, m, key with
  | some _, .sl k, .d (.int .i64) n => match hget h k with
    | .dmap e mm => match asD h e v with
      | some x => if noRefs [v] then some ⟨none, .und, hset h k (.dmap e (mput mm n x)), none⟩ else none
      | none => none
    | _ => none
  | _, _, _ => none

/-- A map is looked into. -/
def dlookup (C : Ctx) (h : List Blk) (t : TypeId) (m key : AV) (ok : Bool) : Option Out :=
  match intMap C t, m, key with
  | some et, .sl k, .d (.int .i64) n => match hget h k, C.zero et with
    | .dmap e mm, some z => match asD h e z with
      | some x => if noRefs [z] then ok0 h (if ok then .tup [.d e ((mget mm n).getD x), .d .bool (mget mm n).isSome] else .d e ((mget mm n).getD x)) else none
      | none => none
    | _, _ => none
  | _, _, _ => none

def aop (C : Ctx) (fr : List AV) (h : List Blk) (op : Op) : Option Out :=
  match op with
  | .move x | .assign x => ok0 h (ev fr x)
  | .pick c a b => apick h (ev fr c) (ev fr a) (ev fr b)
  | .alloc t => aalloc C h t
  | .box t x => match abox' C h t (ev fr x) with
    | some r => some r
    | none => abox h (ev fr x)
  | .build t parts => abuild C h t (evParts fr parts.toList)
  | .buildSlice t len parts => abuildSlice C h t len parts.toList (evs fr (seconds parts.toList))
  | .load t a => aload C h t (ev fr a)
  | .store t a x => astore C h t (ev fr a) (ev fr x)
  | .nilCheck x => anil h (ev fr x)
  | .binOp op xt x y _ => match abinAgg C h op xt (ev fr x) (ev fr y) with
    | some r => some r
    | none => abin C h op xt (ev fr x) (ev fr y)
  | .unOp op _ x => aun h op (ev fr x)
  | .convert src dst x => aconvert C h src dst (ev fr x)
  | .makeFunc (.func f) first caps => if Nat.beq first.size 0 then ok0 h (.fn f (evs fr caps.toList)) else if Nat.beq caps.size 0 then ok0 h (.bnd f (evs fr first.toList)) else none
  | .makeSlice t l c => amake C h t (ev fr l) (ev fr c)
  | .sliceToArrayPointer t x => aarrayAt C h t (ev fr x)
  | .slice t x lo hi mx => aslice C h t (ev fr x) (optEv fr lo) (optEv fr hi) (optEv fr mx)
  | .fieldAddr t x f => afieldAddr C h t (ev fr x) f
  | .field t x f => afield C h t (ev fr x) f
  | .indexAddr t x ix => aindexAddr C h t (ev fr x) (ev fr ix)
  | .index t x ix => aindex C h t (ev fr x) (ev fr ix)
  | .extract x i => aextract h (ev fr x) i
  | .makeMap t none => match intMap C t with
    | some et => match C.ty et with
      | some e => some ⟨none, .sl (hlen h), h ++ [.dmap e []], none⟩
      | none => some ⟨none, .sl (hlen h), h ++ [.kmap []], none⟩
    | none => none
  | .insert t m key v => match ainsert C h t (ev fr m) (ev fr key) (ev fr v) with
    | some r => some r
    | none => dinsert C h t (ev fr m) (ev fr key) (ev fr v)
  | .mapUpdate t m key v => dinsert C h t (ev fr m) (ev fr key) (ev fr v)
  | .lookup t m key ok => dlookup C h t (ev fr m) (ev fr key) ok
  | .call c => match c.callee with
    | .builtin b => abuiltin C h b c.argTypes.toList (evs fr c.args.toList)
    | _ => none
  | _ => none

/-! ### Lists of operations, code, calls -/
/-- What is called: a function, or the rest of a round. -/
inductive Tgt where
  | fn (f : FuncId)
  | yld (k : Nat)
abbrev CallT := Tgt → List AV → St → (AV → St → Prop) → Prop

def needs (p : Option Prop) (q : Prop) : Prop :=
  match p with
  | none => q
  | some p => p ∧ q

def St.apply (s : St) (o : Out) : St :=
  match o.kill with
  | none => { s with heap := o.heap }
  | some k => { top := subL k .junk s.top, below := subF k .junk s.below, heap := subH k .junk o.heap }

/-- A function that a call enters. -/
def enterOk (C : Ctx) (g : FuncId) : Bool :=
  match C.P.funcs[g]? with
  | some fn => fn.body.isSome && !(fn.name == "runtime.NumGoroutine")
  | none => false

/-- A slice held against nil: an empty one may be nil. -/
def anilCmp (C : Ctx) (o : Oper) (s : St) (k : St → Prop) : Prop :=
  match o.op with
  | .binOp op xt x y _ =>
    match elemOf C xt, ev s.top y with
    | some _, .nils => match asList s.heap (ev s.top x) with
      | some ⟨_, xs⟩ => match op with
        | .eql => ∀ b : Bool, (b = true → xs = []) → k (s.put o.dst (.d .bool b))
        | .neq => ∀ b : Bool, (b = true → xs = []) → k (s.put o.dst (.d .bool (!b)))
        | _ => False
      | none => False
    | _, _ => False
  | _ => False

/-- What a key leads to. -/
def forkK (x : Int) (k : AV → Prop) (z : AV) : List (Int × FuncId) → Prop
  | [] => k z
  | (n, f) :: es => (x = n → k (.fn f [])) ∧ (¬ x = n → forkK x k z es)

def alookup (C : Ctx) (o : Oper) (s : St) (k : St → Prop) : Prop :=
  match o.op with
  | .lookup t m i false =>
    match intMap C t with
    | none => False
    | some et => match ev s.top m, ev s.top i with
      | .sl j, .d (.int .i64) x => match hget s.heap j, C.zero et with
        | .kmap es, some z => forkK x (fun v => k (s.put o.dst v)) z es
        | _, _ => False
      | _, _ => False
  | _ => False

/-- The own slice that is given away: one that is sliced, or becomes an element of a slice. -/
def frzOf (o : Oper) (s : St) : Option Nat :=
  match o.op with
  | .slice _ x _ _ _ => match ev s.top x with
    | .sl j => some j
    | _ => none
  | .buildSlice _ _ parts => match refsA (evs s.top (seconds parts.toList)) with
    | j :: _ => some j
    | [] => none
  | _ => none

def afreeze (C : Ctx) (o : Oper) (s : St) (k : St → Prop) : Prop :=
  match frzOf o s with
  | some j => match aop C (s.freeze j).top (s.freeze j).heap o.op with
    | some r => needs r.need (k (((s.freeze j).apply r).put o.dst r.v))
    | none => False
  | none => False

def isFrz : Op → Bool
  | .slice _ _ _ _ _ | .buildSlice _ _ _ => true
  | _ => false

/-- A map is gone through in whatever order. -/
def arange (C : Ctx) (o : Oper) (s : St) (k : St → Prop) : Prop :=
  match o.op with
  | .range t m => match intMap C t, ev s.top m with
    | some _, .sl j => match hget s.heap j with
      | .dmap e mm => k ({ s with heap := hset s.heap j .gone ++ [Blk.diter e [] mm] }.put o.dst (.own (hlen s.heap) 0))
      | _ => False
    | _, _ => False
  | .next it false => match ev s.top it with
    | .own j 0 => match hget s.heap j with
      | .diter e _ left => (left = [] → k (s.put o.dst (.tup [.ff]))) ∧
          ∀ i : Nat, i < left.length → k ({ s with heap := hset s.heap j (.diter e [left.getD i (0, dflt e)] (left.eraseIdx i)) }.put o.dst (.tup [.tt, .d (.int .i64) (left.getD i (0, dflt e)).1, .d e (left.getD i (0, dflt e)).2]))
      | _ => False
    | _ => False
  | .entry it => match ev s.top it with
    | .own j 0 => match hget s.heap j with
      | .diter e [p] _ => k (s.put o.dst (.tup [.d (.int .i64) p.1, .d e p.2]))
      | _ => False
    | _ => False
  | _ => False

def aext (C : Ctx) (o : Oper) (s : St) (k : St → Prop) : Prop :=
  if isFrz o.op then afreeze C o s k else
  match o.op with
  | .lookup _ _ _ _ => alookup C o s k
  | .range _ _ => arange C o s k
  | .next _ _ => arange C o s k
  | .entry _ => arange C o s k
  | _ => anilCmp C o s k

/-- Literals of slices are slices of one's own, where the hint says so. -/
def Ctx.ownLit (C : Ctx) : Bool := Nat.beq ((C.hint 999999996).unr 0) 1
def alit (C : Ctx) (o : Oper) (s : St) (k : St → Prop) : Prop :=
  match o.op with
  | .buildSlice t len parts => match abuildSlice C s.heap t len parts.toList (evs s.top (seconds parts.toList)), elemOf C t with
    | some r, some tid => match r.v with
      | .fs e xs => if Nat.ble 1 len then k ({ s with heap := s.heap ++ [Blk.grow tid e xs] }.put o.dst (.sl (hlen s.heap))) else False
      | _ => False
    | _, _ => False
  | _ => False
def isLit : Op → Bool
  | .buildSlice _ _ _ => true
  | _ => false
def astep (C : Ctx) (call : CallT) (o : Oper) (s : St) (k : St → Prop) : Prop :=
  if isLit o.op && C.ownLit then alit C o s k else
  match o.op with
  | .call { callee := .value f, args, .. } =>
    match ev s.top f with
    | .fn g cap => if enterOk C g then call (.fn g) (evs s.top args.toList ++ cap) s (fun v s' => k (s'.put o.dst v)) else False
    | .yld j => call (.yld j) (evs s.top args.toList) s (fun v s' => k (s'.put o.dst v))
    | .bnd g first => if enterOk C g then call (.fn g) (first ++ evs s.top args.toList) s (fun v s' => k (s'.put o.dst v)) else False
    | _ => False
  | op =>
    match aop C s.top s.heap op with
    | some r => needs r.need (k ((s.apply r).put o.dst r.v))
    | none => aext C o s k

def guardTmp (all : Array Oper) (j : Nat) : Option Tmp :=
  match all[j]? with
  | some o => o.dst
  | none => none

def aops (C : Ctx) (call : CallT) (m : Mode) (all : Array Oper) : List Oper → St → (St → Prop) → Prop
  | [], s, k => k s
  | o :: rest, s, k =>
    match o.guard with
    | none => astep C call o s (fun s' => aops C call m all rest s' k)
    | some (j, want) =>
      match guardTmp all j with
      | none => False
      | some t =>
        match fget s.top t with
        | .tt => match want with
          | true => astep C call o s (fun s' => aops C call m all rest s' k)
          | false => aops C call m all rest (s.put o.dst .und) k
        | .ff => match want with
          | false => astep C call o s (fun s' => aops C call m all rest s' k)
          | true => aops C call m all rest (s.put o.dst .und) k
        | .und => aops C call m all rest (s.put o.dst .und) k
        | .d .bool b =>
          match want with
          | true => splitB m b (astep C call o (s.put (some t) .tt) (fun s' => aops C call m all rest s' k))
              (aops C call m all rest ((s.put (some t) .ff).put o.dst .und) k)
          | false => splitB m.flip b (aops C call m all rest ((s.put (some t) .tt).put o.dst .und) k)
              (astep C call o (s.put (some t) .ff) (fun s' => aops C call m all rest s' k))
        | _ => False

/-! ### Regions that draw their order -/
def neutral : Op → Bool
  | .move _ | .assign _ | .pick _ _ _ | .build _ _ | .buildSlice _ _ _ | .load _ _ | .nilCheck _ | .binOp _ _ _ _ _ | .unOp _ _ _ | .convert _ _ _
  | .makeFunc _ _ _ | .sliceToArrayPointer _ _ | .slice _ _ _ _ _ | .fieldAddr _ _ _ | .field _ _ _ | .indexAddr _ _ _ | .index _ _ _ | .extract _ _ => true
  | .call { callee := .builtin .len, .. } | .call { callee := .builtin .min, .. } | .call { callee := .builtin .max, .. } => true
  | _ => false

def nstep (C : Ctx) (o : Oper) (s : St) (k : St → Prop) : Prop :=
  match o.op with
  | .call { callee := .value f, args, .. } =>
    match ev s.top f with
    | .fn g [] => match C.spec g with
      | some sp =>
        if (flats sp.rs || noRefs (maskAs sp.ps (evs s.top args.toList))) && enterOk C g then
          match asDs s.heap sp.ps (maskAs sp.ps (evs s.top args.toList)) with
          | some x => sp.pre x ∧ k (s.put o.dst (outV sp.rs (sp.post x)))
          | none => False
        else False
      | none => False
    | _ => False
  | op =>
    if neutral op then
      match aop C s.top s.heap op with
      | some r => needs r.need (k (s.put o.dst r.v))
      | none => False
    else False

def tmpOf : Operand → Option Nat
  | .tmp t => some t
  | _ => none

/-- The temporaries that an operation looks at. -/
def looks (all : Array Oper) (o : Oper) : List Nat :=
  (o.op.operands.toList.filterMap tmpOf) ++ (match o.guard with | some (j, _) => (guardTmp all j).toList | none => [])

def memN' (t : Nat) : List Nat → Bool
  | [] => false
  | u :: l => Nat.beq t u || memN' t l

/-- A call of a function that hands back a slice of its own. -/
def gcall (C : Ctx) (o : Oper) (s : St) : Option (FuncId × GSpec × List AV) :=
  match o.op with
  | .call { callee := .value f, args, .. } =>
    match ev s.top f with
    | .fn g [] => match C.spec g with
      | some _ => none
      | none => match C.fresh g with
        | some gs => some (g, gs, evs s.top args.toList)
        | none => none
    | _ => none
  | _ => none

/-- A variable of our own. -/
def acell (C : Ctx) (o : Oper) : Option (List AV) :=
  match o.op with
  | .alloc t => match C.zero t with
    | some z => cellsOf' z
    | none => none
  | _ => none

/-- An append to an empty slice that was just written. -/
def pcall (C : Ctx) (o : Oper) (s : St) : Option (Prop × Blk) :=
  match o.op with
  | .call { callee := .builtin .append, args, argTypes } =>
    match evs s.top args.toList, argTypes.toList with
    | [.fs e [], y], [t, tx] => match C.tailFirst, elemOf C t with
      | false, some tid => match C.size tid, C.zero tid, asTail C s.heap e tx y with
        | some sz, some z, some ys => if Nat.beq e.cells sz && zeroOk e z then some (roomP C tid ys.length, .grow tid e ys) else none
        | _, _, _ => none
      | _, _ => none
    | _, _ => none
  | _ => none

def edgesOf (o : Oper) : List Nat := (o.after.toList.filter (Region.binds .any)).map (·.on)

def memS (i : Nat) : List Nat → Bool
  | [] => false
  | j :: l => Nat.beq i j || memS i l

/-- What is waited for, through others too: the operations are looked through from number k down. -/
def sweep (all : Array Oper) : Nat → List Nat → List Nat
  | 0, S => S
  | k + 1, S => if memS k S then (match all[k]? with
      | some o => sweep all k (edgesOf o ++ S)
      | none => sweep all k S) else sweep all k S

/-- The stores among the head's operations. -/
def storesOf : List Oper → Nat → List (Nat × Oper)
  | [], _ => []
  | o :: os, i => match o.op with
    | .store _ _ _ => (i, o) :: storesOf os (i + 1)
    | _ => storesOf os (i + 1)

/-- All stores wait for it. -/
def before (all : Array Oper) : List (Nat × Oper) → Nat → Bool
  | [], _ => true
  | (s, o) :: l, i => (Nat.beq i s || memS i (sweep all s (edgesOf o))) && before all l i

def isSt : List (Nat × Oper) → Nat → Bool
  | [], _ => false
  | (s, _) :: l, i => Nat.beq i s || isSt l i

/-- The own slices are not looked at. -/
def maskB : Blk → Blk
  | .grow _ _ _ => .gone
  | b => b
def maskG : List Blk → List Blk
  | [] => []
  | b :: l => maskB b :: maskG l

/-- What a store of the head writes: into an own slice, or into a variable that the head itself has laid (ex: what it has laid so far). -/
def scall (C : Ctx) (n : Nat) (ex : List Blk) (o : Oper) (s : St) : Option (Nat × Blk) :=
  match o.op, o.dst with
  | .store t a x, none => match ev s.top a with
    | .slp k sz i => match ev s.top x with
      | .d u y => if Nat.ble (k + 1) n then match astore C s.heap t (.slp k sz i) (.d u y) with
          | some r => some (k, hget r.heap k)
          | none => none
        else none
      | _ => none
    | .own k off => if Nat.ble n k then match hget ex (k - n) with
        | .cells cs => match cellsOf' (ev s.top x), C.size t with
          | some l, some sz => if Nat.beq (listLen l) sz && Nat.ble (off + sz) (listLen cs) then some (k, .cells (setCells cs off l)) else none
          | _, _ => none
        | _ => none
      else none
    | _ => none
  | _, _ => none

def wr (h : List Blk) : List (Nat × Blk) → List Blk
  | [] => h
  | (k, b) :: l => wr (hset h k b) l

def notKey (k : Nat) : List (Nat × Blk) → Bool
  | [] => true
  | (j, _) :: l => !(Nat.beq j k) && notKey k l

def upd (rw : List (Nat × Blk)) : Option (Nat × Blk) → List (Nat × Blk)
  | some r => rw ++ [r]
  | none => rw

/-- One operation of the head; what it lays stands at place j. -/
def dstep (C : Ctx) (n : Nat) (ex : List Blk) (rw : List (Nat × Blk)) (isS : Bool) (o : Oper) (j : Nat) (s : St) (k : Blk → Option (Nat × Blk) → St → Prop) : Prop :=
  if isS then match scall C n ex o s with
    | some r => if notKey r.1 rw then k .gone (some r) s else False
    | none => False
  else match gcall C o s with
  | some (g, gs, args) =>
    if noRefs args && enterOk C g then
      match asDs s.heap gs.ps args with
      | some x => gs.pre x ∧ k (.grow gs.tid gs.e (gs.post x)) none (s.put o.dst (.sl j))
      | none => False
    else False
  | none => match acell C o with
    | some cs => k (.cells cs) none (s.put o.dst (.own j 0))
    | none => match pcall C o s with
      | some (p, b) => p ∧ k b none (s.put o.dst (.sl j))
      | none => nstep C o s (k .gone none)

/-- A place for each operation. -/
def gones : List Oper → List Blk
  | [] => []
  | _ :: os => .gone :: gones os

/-- What the head is walked with: its operations, the heap ahead of it, the store, the heaps for those that come before it and the others. -/
structure HW where
  all : Array Oper
  h0 : List Blk
  st : List (Nat × Oper)
  hU : List Blk
  hM : List Blk

def HW.heap (H : HW) (i : Nat) : List Blk := if before H.all H.st i then H.hU else H.hM

def dops (C : Ctx) (m : Mode) (H : HW) : List Oper → Nat → List Blk → List (Nat × Blk) → St → (St → Prop) → Prop
  | [], _, ex, rw, s, k => k { s with heap := wr (H.h0 ++ ex) rw }
  | o :: rest, i, ex, rw, s, k =>
    match o.guard with
    | none => dstep C (hlen H.h0) ex rw (isSt H.st i) o (hlen H.h0 + i) { s with heap := H.heap i } (fun b r s' => dops C m H rest (i + 1) (ex ++ [b]) (upd rw r) s' k)
    | some (g, want) =>
      match guardTmp H.all g with
      | none => False
      | some t =>
        match fget s.top t with
        | .tt => match want with
          | true => dstep C (hlen H.h0) ex rw (isSt H.st i) o (hlen H.h0 + i) { s with heap := H.heap i } (fun b r s' => dops C m H rest (i + 1) (ex ++ [b]) (upd rw r) s' k)
          | false => dops C m H rest (i + 1) (ex ++ [.gone]) rw (s.put o.dst .und) k
        | .ff => match want with
          | false => dstep C (hlen H.h0) ex rw (isSt H.st i) o (hlen H.h0 + i) { s with heap := H.heap i } (fun b r s' => dops C m H rest (i + 1) (ex ++ [b]) (upd rw r) s' k)
          | true => dops C m H rest (i + 1) (ex ++ [.gone]) rw (s.put o.dst .und) k
        | .und => dops C m H rest (i + 1) (ex ++ [.gone]) rw (s.put o.dst .und) k
        | .d .bool b =>
          match want with
          | true => splitB m b (dstep C (hlen H.h0) ex rw (isSt H.st i) o (hlen H.h0 + i) { s.put (some t) .tt with heap := H.heap i } (fun b r s' => dops C m H rest (i + 1) (ex ++ [b]) (upd rw r) s' k))
              (dops C m H rest (i + 1) (ex ++ [.gone]) rw ((s.put (some t) .ff).put o.dst .und) k)
          | false => splitB m.flip b (dops C m H rest (i + 1) (ex ++ [.gone]) rw ((s.put (some t) .tt).put o.dst .und) k)
              (dstep C (hlen H.h0) ex rw (isSt H.st i) o (hlen H.h0 + i) { s.put (some t) .ff with heap := H.heap i } (fun b r s' => dops C m H rest (i + 1) (ex ++ [b]) (upd rw r) s' k))
        | _ => False

def HW.mk' (all : Array Oper) (h0 : List Blk) (head : List Oper) : HW :=
  { all := all, h0 := h0, st := storesOf head 0, hU := h0 ++ gones head, hM := maskG h0 ++ gones head }

def hasEdge (o : Oper) (j : Nat) : Bool := o.after.any fun e => Region.binds .any e && Nat.beq e.on j

def allIn (S : List Nat) : Nat → Bool
  | 0 => true
  | j + 1 => memS j S && allIn S j

/-- All operations before number i are waited for by it, be it through others. -/
def depAll (all : Array Oper) (o : Oper) (i : Nat) : Bool := allIn (sweep all i (edgesOf o)) i

/-- Operation number i against number j of the head. -/
def pairOk (all : Array Oper) (i j : Nat) (oi oj : Oper) : Bool :=
  Nat.beq i j || match oj.dst with
    | none => true
    | some t => !(oi.dst == some t) && (!(memN' t (looks all oi)) || (Nat.blt j i && hasEdge oi j) || (Nat.blt i j && hasEdge oj i))

def selfOk (all : Array Oper) (o : Oper) : Bool :=
  match o.dst with
  | none => true
  | some t => !(memN' t (looks all o))

def backEdges (i : Nat) (o : Oper) : Bool := o.after.all fun e => !Region.binds .any e || Nat.blt e.on i

def headOk (all : Array Oper) (head : List (Oper × Nat)) : Bool :=
  head.all fun p => selfOk all p.1 && backEdges p.2 p.1 && head.all fun q => pairOk all p.2 q.2 p.1 q.1

def tailOk (all : Array Oper) : Nat → List Oper → Bool
  | _, [] => true
  | i, o :: l => depAll all o i && backEdges i o && tailOk all (i + 1) l

/-- How many operations at the end wait for all before them. -/
def tailLen (all : Array Oper) : Nat → List Oper → Nat     -- the list turned round, the number of its first one
  | _, [] => 0
  | i, o :: l => if depAll all o i then tailLen all (i - 1) l + 1 else 0

def headLen (ops : Array Oper) : Nat := ops.size - tailLen ops (ops.size - 1) ops.toList.reverse

def drawOk (ops : Array Oper) (m : Nat) : Bool := headOk ops (ops.toList.take m).zipIdx && tailOk ops m (ops.toList.drop m)

/-- The operations that may come next, of those before number n. -/
def readyL (all : Array Oper) (L : List Nat) : Nat → List Nat
  | 0 => []
  | n + 1 => match all[n]? with
    | some o => if !(memS n L) && (edgesOf o).all (fun j => memS j L) then readyL all L n ++ [n] else readyL all L n
    | none => readyL all L n

def aeach (p : Nat → Prop) : List Nat → Prop
  | [] => True
  | [i] => p i
  | i :: j :: l => p i ∧ aeach p (j :: l)

def oneAt (all : Array Oper) (i : Nat) (p : Oper → Prop) : Prop :=
  match all[i]? with
  | some o => p o
  | none => False

def isNilL : List Nat → Bool
  | [] => true
  | _ => false

/-- No operation is put off. -/
def noDefer (all : Array Oper) : Bool := all.all fun o => match o.op with | .defer _ => false | _ => true

/-- Operations that yield the same in whatever world that keeps what is promised. -/
def isTk (fr : List AV) : Op → Bool
  | .move _ | .assign _ | .fieldAddr _ _ _ => true
  | .load _ x => match ev fr x with
    | .rp _ _ => true
    | _ => false
  | .indexAddr _ x _ => match ev fr x with
    | .d _ _ => true
    | .fs _ _ => true
    | _ => false
  | .binOp _ _ x y _ => match ev fr x, ev fr y with
    | .d (.int _) _, .d (.int _) _ => true
    | _, _ => false
  | .slice _ x _ _ _ => match ev fr x with
    | .d (.arr _) _ => true
    | _ => false
  | _ => false

/-- It may be taken first. -/
def freeL (fr : List AV) (all : Array Oper) (L : List Nat) (i : Nat) : Bool :=
  match all[i]? with
  | none => false
  | some oi => isTk fr oi.op && oi.guard.isNone && (List.range all.size).all fun j => j == i || memS j L || match all[j]? with
      | some oj => oj.after.any (fun e => Region.binds .any e && e.on == i) || oi.apart all oj
      | none => true

def tkOf (fr : List AV) (all : Array Oper) (L : List Nat) : List Nat → Option Nat
  | [] => none
  | i :: l => if freeL fr all L i then some i else tkOf fr all L l

/-! ### By value -/
mutual
def _root_.Go.Rose.nf {α : Type} (f : α → (α → Prop) → Prop) : Rose α → (Rose α → Prop) → Prop
  | .node x l, k => f x fun x' => Rose.nfs f l fun l' => k (.node x' l')
def _root_.Go.Rose.nfs {α : Type} (f : α → (α → Prop) → Prop) : List (Rose α) → (List (Rose α) → Prop) → Prop
  | [], k => k []
  | y :: l, k => Rose.nf f y fun y' => Rose.nfs f l fun l' => k (y' :: l')
end
mutual
theorem nf_eq {α : Type} {f : α → (α → Prop) → Prop} (hf : ∀ x k, f x k = k x) : ∀ (r : Rose α) (k : Rose α → Prop), Rose.nf f r k = k r
  | .node x l, k => by unfold Rose.nf; rw [hf, nfs_eq hf l]
theorem nfs_eq {α : Type} {f : α → (α → Prop) → Prop} (hf : ∀ x k, f x k = k x) : ∀ (l : List (Rose α)) (k : List (Rose α) → Prop), Rose.nfs f l k = k l
  | [], k => rfl
  | y :: l, k => by unfold Rose.nfs; rw [nf_eq hf y, nfs_eq hf l]
end
def nfL {α : Type} (f : α → (α → Prop) → Prop) : List α → (List α → Prop) → Prop
  | [], k => k []
  | y :: l, k => f y fun y' => nfL f l fun l' => k (y' :: l')
theorem nfL_eq {α : Type} {f : α → (α → Prop) → Prop} (hf : ∀ x k, f x k = k x) : ∀ (l : List α) (k : List α → Prop), nfL f l k = k l
  | [], k => rfl
  | y :: l, k => by unfold nfL; rw [hf, nfL_eq hf l]
def nfI (n : Int) (k : Int → Prop) : Prop := match n with
  | .ofNat m => k (.ofNat m)
  | .negSucc m => k (.negSucc m)
theorem nfI_eq (n : Int) (k : Int → Prop) : nfI n k = k n := by cases n <;> rfl
def nfB (n : Bool) (k : Bool → Prop) : Prop := match n with
  | true => k true
  | false => k false
def nfP {α β : Type} (f : α → (α → Prop) → Prop) (g : β → (β → Prop) → Prop) (x : α × β) (k : α × β → Prop) : Prop := match x with
  | (u, v) => f u fun u' => g v fun v' => k (u', v')
theorem nfP_eq {α β : Type} {f : α → (α → Prop) → Prop} {g : β → (β → Prop) → Prop} (hf : ∀ x k, f x k = k x) (hg : ∀ x k, g x k = k x) (x : α × β) (k : α × β → Prop) : nfP f g x k = k x := by
  obtain ⟨u, v⟩ := x
  unfold nfP
  simp only [hf, hg]
/-- Closed data, reckoned. -/
def nfD : (t : Ty) → t.den → (t.den → Prop) → Prop
  | .pair a b, x, k => nfP (nfD a) (nfD b) x k
  | .arr e, x, k => nfL (nfD e) x k
  | .rose a b, x, k => Rose.nf (nfP (nfD a) (nfD b)) x k
  | .int _, x, k => nfI x k
  | .bool, x, k => nfB x k
  | .unit, x, k => k x
  | .str, x, k => k x
  | .fnc, x, k => k x
  | .any, x, k => k x
  | .vec _ _, x, k => k x
theorem nfD_eq : ∀ (t : Ty) (x : t.den) (k : t.den → Prop), nfD t x k = k x
  | .pair a b, x, k => nfP_eq (nfD_eq a) (nfD_eq b) x k
  | .arr e, x, k => nfL_eq (nfD_eq e) x k
  | .rose a b, x, k => nf_eq (nfP_eq (nfD_eq a) (nfD_eq b)) x k
  | .int _, x, k => nfI_eq x k
  | .bool, x, k => by cases x <;> rfl
  | .unit, x, k => rfl
  | .str, x, k => rfl
  | .fnc, x, k => rfl
  | .any, x, k => rfl
  | .vec _ _, x, k => rfl
def forceV0 (fl : Bool) (v : AV) (k : AV → Prop) : Prop :=
  match v with
  | .junk => k .junk
  | .und => k .und
  | .tt => k .tt
  | .ff => k .ff
  | .d t x => bif fl then nfD t x fun y => k (.d t y) else k (.d t x)
  | .fs e xs => bif fl then nfL (nfD e) xs fun y => k (.fs e y) else k (.fs e xs)
  | .nils => k .nils
  | .agg cs => k (.agg cs)
  | .tup cs => k (.tup cs)
  | .fn f cs => k (.fn f cs)
  | .bnd f cs => k (.bnd f cs)
  | .sv a b c d => k (.sv a b c d)
  | .nilf => k .nilf
  | .nilp => k .nilp
  | .own a b => k (.own a b)
  | .sl a => k (.sl a)
  | .slp a b c => k (.slp a b c)
  | .rp t x => bif fl then nfD t x fun y => k (.rp t y) else k (.rp t x)
  | .yld a => k (.yld a)
def forceL0 (fl : Bool) : List AV → (List AV → Prop) → Prop
  | [], k => k []
  | v :: vs, k => forceV0 fl v fun v' => forceL0 fl vs fun vs' => k (v' :: vs')
def forceV (fl : Bool) (v : AV) (k : AV → Prop) : Prop :=
  match v with
  | .agg cs => forceL0 fl cs fun cs => k (.agg cs)
  | .tup cs => forceL0 fl cs fun cs => k (.tup cs)
  | .fn f cs => forceL0 fl cs fun cs => k (.fn f cs)
  | v => forceV0 fl v k
def forceL (fl : Bool) : List AV → (List AV → Prop) → Prop
  | [], k => k []
  | v :: vs, k => forceV fl v fun v' => forceL fl vs fun vs' => k (v' :: vs')
def forceF (fl : Bool) : List (List AV) → (List (List AV) → Prop) → Prop
  | [], k => k []
  | v :: vs, k => forceL fl v fun v' => forceF fl vs fun vs' => k (v' :: vs')
def forceB (fl : Bool) (b : Blk) (k : Blk → Prop) : Prop :=
  match b with
  | .gone => k .gone
  | .log ys Y own xs => k (.log ys Y own xs)
  | .lof ys Y own => k (.lof ys Y own)
  | .cells cs => forceL fl cs fun cs => k (.cells cs)
  | .grow a b c => bif fl then nfL (nfD b) c fun c => k (.grow a b c) else k (.grow a b c)
  | .kmap a => k (.kmap a)
  | .dmap a b => k (.dmap a b)
  | .diter a b c => k (.diter a b c)
  | .loop f p ph ts => forceL fl ts fun ts => k (.loop f p ph ts)
def forceH (fl : Bool) : List Blk → (List Blk → Prop) → Prop
  | [], k => k []
  | v :: vs, k => forceB fl v fun v' => forceH fl vs fun vs' => k (v' :: vs')
def forceSF (fl : Bool) (s : St) (k : St → Prop) : Prop := forceL fl s.top fun t => forceF fl s.below fun b => forceH fl s.heap fun h => k { top := t, below := b, heap := h }
def forceS (s : St) (k : St → Prop) : Prop := forceSF false s k
theorem forceV0_eq (fl : Bool) (v : AV) (k : AV → Prop) : forceV0 fl v k = k v := by
  cases v <;> first
    | rfl
    | (cases fl <;> first | rfl | exact nfD_eq _ _ _ | exact nfL_eq (nfD_eq _) _ _)
theorem forceL0_eq (fl : Bool) : ∀ (l : List AV) (k : List AV → Prop), forceL0 fl l k = k l
  | [], _ => rfl
  | v :: vs, k => by unfold forceL0; rw [forceV0_eq, forceL0_eq fl vs]
theorem forceV_eq (fl : Bool) (v : AV) (k : AV → Prop) : forceV fl v k = k v := by
  unfold forceV
  split
  · exact forceL0_eq fl _ _
  · exact forceL0_eq fl _ _
  · exact forceL0_eq fl _ _
  · exact forceV0_eq fl _ _
theorem forceL_eq (fl : Bool) : ∀ (l : List AV) (k : List AV → Prop), forceL fl l k = k l
  | [], _ => rfl
  | v :: vs, k => by unfold forceL; rw [forceV_eq, forceL_eq fl vs]
theorem forceF_eq (fl : Bool) : ∀ (l : List (List AV)) (k : List (List AV) → Prop), forceF fl l k = k l
  | [], _ => rfl
  | v :: vs, k => by unfold forceF; rw [forceL_eq, forceF_eq fl vs]
theorem forceB_eq (fl : Bool) (b : Blk) (k : Blk → Prop) : forceB fl b k = k b := by
  cases b <;> first
    | rfl
    | exact forceL_eq fl _ _
    | (cases fl <;> first | rfl | exact nfL_eq (nfD_eq _) _ _)
theorem forceH_eq (fl : Bool) : ∀ (l : List Blk) (k : List Blk → Prop), forceH fl l k = k l
  | [], _ => rfl
  | v :: vs, k => by unfold forceH; rw [forceB_eq, forceH_eq fl vs]
theorem forceSF_eq (fl : Bool) (s : St) (k : St → Prop) : forceSF fl s k = k s := by unfold forceSF; rw [forceL_eq, forceF_eq, forceH_eq]
theorem forceS_eq (s : St) (k : St → Prop) : forceS s k = k s := forceSF_eq false s k
/-- States by value, where the hint says so. -/
def forceC (n : Nat) (s : St) (k : St → Prop) : Prop := bif Nat.beq n 700 then forceSF true s k else k s
theorem forceC_eq (n : Nat) (s : St) (k : St → Prop) : forceC n s k = k s := by
  unfold forceC
  cases Nat.beq n 700
  · rfl
  · exact forceSF_eq _ _ _
/-- A load of an own cell, and what depends on it. -/
def isLd (fr : List AV) : Op → Bool
  | .load _ x => match ev fr x with
    | .own _ _ => true
    | _ => false
  | _ => false
def isLoad : Op → Bool
  | .load _ _ => true
  | _ => false
def hasDep (all : Array Oper) (D : List Nat) (j : Nat) : Bool := match all[j]? with
  | some oj => oj.after.any fun e => Region.binds .any e && memS e.on D
  | none => false
def descs (all : Array Oper) (L : List Nat) : Nat → List Nat → List Nat
  | 0, D => D
  | n + 1, D => descs all L n (D ++ (List.range all.size).filter fun j => !memS j L && !memS j D && hasDep all D j)
def freeLdD (all : Array Oper) (L D : List Nat) (i : Nat) (oi : Oper) : Bool :=
  (D.all fun d => !memS d L && (d == i || hasDep all D d)) && (List.range all.size).all fun j => j == i || memS j L || memS j D || match all[j]? with
    | some oj => isLoad oj.op && oi.apart all oj
    | none => true
def freeLd (fr : List AV) (all : Array Oper) (L : List Nat) (i : Nat) : Bool :=
  match all[i]? with
  | none => false
  | some oi => isLd fr oi.op && oi.guard.isNone && freeLdD all L (descs all L all.size [i]) i oi
/-- The operations to begin with: a load of an own cell that nothing but what waits for it can change, or all that are ready. -/
def ldOf (fr : List AV) (all : Array Oper) (L R : List Nat) : List Nat → List Nat
  | [] => R
  | i :: l => if freeLd fr all L i then [i] else ldOf fr all L R l

/-- A load of an own cell whose value stays, and one other operation: both orders come to the same. -/
def isSl (j : Nat) : AV → Bool
  | .sl k => Nat.beq k j
  | _ => false
def notDst (q : Nat) : Option Tmp → Bool
  | some d => !Nat.beq d q
  | none => true
def slotS (j : Nat) (fr fr1 : List AV) (d : Option Tmp) : Nat → Bool
  | 0 => false
  | q + 1 => (notDst q d && isSl j (fget fr q) && isSl j (fget fr1 q)) || slotS j fr fr1 d q
def sameAV (fr fr1 : List AV) (d : Option Tmp) : AV → AV → Bool
  | .nils, .nils => true
  | .sl j, .sl k => Nat.beq j k && slotS j fr fr1 d (listLen fr)
  | _, _ => false
def loadAV (C : Ctx) (fr : List AV) (h : List Blk) : Op → Option AV
  | .load t x => match aload C h t (ev fr x) with
    | some r => some r.v
    | none => none
  | _ => none
def slOrNil : Option AV → Bool
  | some .nils => true
  | some (.sl _) => true
  | _ => false
def diaOk (C : Ctx) (all : Array Oper) (L : List Nat) (s : St) (i f : Nat) : Bool :=
  match all[i]?, all[f]? with
  | some oi, some o => isLd s.top oi.op && oi.guard.isNone && slOrNil (loadAV C s.top s.heap oi.op) && oi.apart all o && !Nat.beq i f && (match readyL all (i :: L) all.size with
    | [g] => Nat.beq g f
    | _ => false)
  | _, _ => false
def diaOf (C : Ctx) (all : Array Oper) (L : List Nat) (s : St) (n : Nat) : List Nat → Option (Nat × Nat)
  | [p, q] => match n with
    | 0 => none
    | _ + 1 => match (C.hint 999999997).unr 0 with
      | 0 => none
      | _ + 1 => if diaOk C all L s p q then some (p, q) else if diaOk C all L s q p then some (q, p) else none
  | _ => none

/-- Guards in a region all of whose orders are gone through: both ways, or reckoned. -/
def allMd (C : Ctx) : Mode := match (C.hint 999999997).unr 0 with
  | 0 => .split
  | _ => .force
/-- All orders of a region, one by one; what yields the same in whatever world is taken first. -/
def aall (C : Ctx) (call : CallT) (all : Array Oper) : Nat → List Nat → St → (St → Prop) → Prop
  | 0, L, s, k => if isNilL (readyL all L all.size) then k s else False
  | n + 1, L, s, k => if isNilL (readyL all L all.size) then k s else
      match tkOf s.top all L (readyL all L all.size) with
      | some i => oneAt all i fun o => match aop C s.top s.heap o.op with
        | some r => needs r.need (aall C call all n (i :: L) (s.put o.dst r.v) k)
        | none => False
      | none => match diaOf C all L s n (readyL all L all.size) with
        | some (i, f) => oneAt all i fun oi => oneAt all f fun o => aops C call (allMd C) all [o] s (fun s' => match loadAV C s.top s.heap oi.op, loadAV C s'.top s'.heap oi.op with
          | some x, some y => if sameAV s.top s'.top o.dst x y then aall C call all n (f :: L) s' k else False
          | _, _ => False)
        | none => aeach (fun i => oneAt all i fun o => aops C call (allMd C) all [o] s (fun s' => aall C call all n (i :: L) s' k)) (ldOf s.top all L (readyL all L all.size) (readyL all L all.size))

def isAllM : Mode → Bool
  | .all => true
  | _ => false

def adraw (C : Ctx) (call : CallT) (md : Mode) (ops : Array Oper) (s : St) (k : St → Prop) : Prop :=
  if isAllM md then (if C.P.follows .mixedOrders && (Region.noSelect ops && noDefer ops) then aall C call ops ops.size [] s k else False) else
  if drawOk ops (headLen ops) && C.P.follows .mixedOrders then
    dops C md (HW.mk' ops s.heap (ops.toList.take (headLen ops))) (ops.toList.take (headLen ops)) 0 [] [] s (fun s' => aops C call md ops (ops.toList.drop (headLen ops)) s' k)
  else False

def setTmp : Operand → AV → St → St
  | .tmp t, v, s => s.put (some t) v
  | _, _, s => s

/-- The slots that a code writes. -/
def dstsOps : List Oper → List Nat
  | [] => []
  | o :: os => match o.dst with | some t => t :: dstsOps os | none => dstsOps os
def dsts : Code → List Nat
  | .region _ ops _ => dstsOps ops.toList
  | .seq a b => dsts a ++ dsts b
  | .cond _ a b => dsts a ++ dsts b
  | .block _ c | .loop c | .scope c => dsts c
  | _ => []

def firstRegion : Code → Option Nat
  | .region i _ _ => some i
  | .seq a b => match firstRegion a with | some i => some i | none => firstRegion b
  | .cond _ a b => match firstRegion a with | some i => some i | none => firstRegion b
  | .block _ c | .loop c | .scope c => firstRegion c
  | _ => none

/-! ### Loops -/
def getLA (s : St) : (a : LA) → Option a.ty.den
  | .slot i t => if noRefs [fget s.top i] then asD s.heap t (fget s.top i) else none
  | .cell k off t => match hget s.heap k with
    | .cells cs => if !t.isAgg && noRefs [fget cs off] && Nat.ble (off + 1) (listLen cs) then asD1 s.heap t (fget cs off) else none
    | _ => none
  | .gslot i tid e => match fget s.top i with
    | .sl k => match hget s.heap k with
      | .grow tid' e' xs => if Nat.beq tid tid' then cast? (.arr e') (.arr e) xs else none
      | _ => none
    | .fs e' xs => cast? (.arr e') (.arr e) xs
    | _ => none
  | .gcell k off tid e => match hget s.heap k with
    | .cells cs => match fget cs off with
      | .sl j => match hget s.heap j with
        | .grow tid' e' xs => if Nat.beq tid tid' then cast? (.arr e') (.arr e) xs else none
        | _ => none
      | _ => none
    | _ => none
  | .keep k tid e => match hget s.heap k with
    | .grow tid' e' xs => if Nat.beq tid tid' then cast? (.arr e') (.arr e) xs else none
    | _ => none
  | .kmp k e => match hget s.heap k with
    | .dmap e' m => cast? (.arr (.pair (.int .i64) e')) (.arr (.pair (.int .i64) e)) m
    | _ => none
  | .kit k e => match hget s.heap k with
    | .diter e' _ m => cast? (.arr (.pair (.int .i64) e')) (.arr (.pair (.int .i64) e)) m
    | _ => none

def getLAs (s : St) : (as : List LA) → Option (dens (laTys as))
  | [] => some ()
  | [a] => getLA s a
  | a :: b :: as =>
    match getLA s a with
    | some x => match getLAs s (b :: as) with
      | some y => some (x, y)
      | none => none
    | none => none

/-- A slot with a nil slice becomes one with a slice of our own. -/
def prepLA (s : St) : LA → St
  | .gslot i tid e => match fget s.top i with
    | .nils => { s with top := fset s.top i (.sl (hlen s.heap)), heap := s.heap ++ [.grow tid e []] }
    | _ => s
  | .gcell k off tid e => match hget s.heap k with
    | .cells cs => match fget cs off with
      | .nils => { s with heap := hset (s.heap ++ [.grow tid e []]) k (.cells (fset cs off (.sl (hlen s.heap)))) }
      | _ => s
    | _ => s
  | _ => s

def prepLAs (s : St) : List LA → St
  | [] => s
  | a :: as => prepLAs (prepLA s a) as

def memN (i : Nat) : List Nat → Bool
  | [] => false
  | j :: l => Nat.beq i j || memN i l

/-- No pointer into a slice of our own, none of the slices that vary. -/
def noSlp (ks : List Nat) : AV → AV
  | .slp _ _ _ => .junk
  | .sv _ _ _ _ => .junk
  | .sl k => if memN k ks then .junk else .sl k
  | v => v

/-- What is written and not told is forgotten. -/
def forget (ks : List Nat) (w : List Nat) : Nat → List AV → List AV
  | _, [] => []
  | i, v :: vs => (if memN i w then .junk else noSlp ks v) :: forget ks w (i + 1) vs

def noSlps (ks : List Nat) : List AV → List AV
  | [] => []
  | v :: vs => noSlp ks v :: noSlps ks vs
def noSlpF (ks : List Nat) : List (List AV) → List (List AV)
  | [] => []
  | f :: fs => noSlps ks f :: noSlpF ks fs

mutual
/-- Of a variable's content, what it stands on is kept. -/
def keepC (ks : List Nat) : AV → AV
  | .own k o => .own k o
  | .sl k => if memN k ks then .junk else .sl k
  | .fn f cs => .fn f (keepCs ks cs)
  | .bnd f cs => .bnd f (keepCs ks cs)
  | .yld k => .yld k
  | .nils => .nils
  | .nilf => .nilf
  | .nilp => .nilp
  | _ => .junk
def keepCs (ks : List Nat) : List AV → List AV
  | [] => []
  | v :: vs => keepC ks v :: keepCs ks vs
end

mutual
/-- It is what it was. -/
def sameC : AV → AV → Bool
  | .own k o, b => match b with | .own k' o' => Nat.beq k k' && Nat.beq o o' | _ => false
  | .sl k, b => match b with | .sl k' => Nat.beq k k' | _ => false
  | .fn f cs, b => match b with | .fn f' ds => Nat.beq f f' && sameCs cs ds | _ => false
  | .bnd f cs, b => match b with | .bnd f' ds => Nat.beq f f' && sameCs cs ds | _ => false
  | .yld k, b => match b with | .yld k' => Nat.beq k k' | _ => false
  | .nils, b => match b with | .nils => true | _ => false
  | .nilf, b => match b with | .nilf => true | _ => false
  | .nilp, b => match b with | .nilp => true | _ => false
  | .junk, _ => true
  | _, _ => false
def sameCs : List AV → List AV → Bool
  | [], b => match b with | [] => true | _ => false
  | c :: cs, b => match b with | d :: ds => sameC c d && sameCs cs ds | [] => false
end

def yldIn (k : Nat) : List AV → Bool
  | [] => false
  | .yld j :: l => Nat.beq j k || yldIn k l
  | _ :: l => yldIn k l
def yldInF (k : Nat) : List (List AV) → Bool
  | [] => false
  | f :: fs => yldIn k f || yldInF k fs

/-- What is left of the blocks at a loop's head: variables' content that cannot vary, records of loops under way that a frame names. -/
def havocH (ks : List Nat) (fs : List (List AV)) : Nat → List Blk → List Blk
  | _, [] => []
  | i, .cells cs :: h => .cells (keepCs ks cs) :: havocH ks fs (i + 1) h
  | i, .kmap es :: h => .kmap es :: havocH ks fs (i + 1) h
  | i, .loop f p ph ts :: h => (if yldInF i fs then .loop f p ph (noSlps ks ts) else .gone) :: havocH ks fs (i + 1) h
  | i, _ :: h => .gone :: havocH ks fs (i + 1) h

/-- The number of the own slice that a row of the annotation speaks of. -/
def laSl (s0 : St) : LA → Option Nat
  | .gslot i _ _ => match fget s0.top i with
    | .sl k => some k
    | _ => none
  | .gcell k off _ _ => match hget s0.heap k with
    | .cells cs => match fget cs off with
      | .sl j => some j
      | _ => none
    | _ => none
  | _ => none

/-- The own slices that the annotation speaks of. -/
def laKs (s0 : St) : List LA → List Nat
  | [] => []
  | a :: as => match laSl s0 a with
    | some k => k :: laKs s0 as
    | none => laKs s0 as

def setLA (s0 s : St) : (a : LA) → a.ty.den → St
  | .slot i t, x => { s with top := fset s.top i (.d t x) }
  | .cell k off t, x => match hget s.heap k with
    | .cells cs => { s with heap := hset s.heap k (.cells (fset cs off (.d t x))) }
    | _ => s
  | .gslot i tid e, xs => match laSl s0 (.gslot i tid e) with
    | some k => { s with top := fset s.top i (.sl k), heap := hset s.heap k (.grow tid e xs) }
    | none => s
  | .gcell k off tid e, xs => match laSl s0 (.gcell k off tid e) with
    | some j => match hget s.heap k with
      | .cells cs => { s with heap := hset (hset s.heap k (.cells (fset cs off (.sl j)))) j (.grow tid e xs) }
      | _ => s
    | none => s
  | .keep k tid e, xs => { s with heap := hset s.heap k (.grow tid e xs) }
  | .kmp k e, xs => { s with heap := hset s.heap k (.dmap e xs) }
  | .kit k e, xs => { s with heap := hset s.heap k (.diter e [] xs) }

def setLAs (s0 s : St) : (as : List LA) → dens (laTys as) → St
  | [], _ => s
  | [a], x => setLA s0 s a x
  | a :: b :: as, x => setLAs s0 (setLA s0 s a x.1) (b :: as) x.2

/-- A loop's head, but for what varies. -/
def head0 (s0 : St) (w : List Nat) (as : List LA) : St :=
  { top := forget (laKs s0 as) w 0 s0.top, below := noSlpF (laKs s0 as) s0.below, heap := havocH (laKs s0 as) (forget (laKs s0 as) w 0 s0.top :: noSlpF (laKs s0 as) s0.below) 0 s0.heap }

def tmpl (s0 : St) (w : List Nat) (as : List LA) (x : dens (laTys as)) : St := setLAs s0 (head0 s0 w as) as x

mutual
def still : AV → AV → Bool
  | .own k o, b => match b with | .own k' o' => Nat.beq k k' && Nat.beq o o' | _ => false
  | .sl k, b => match b with | .sl k' => Nat.beq k k' | _ => false
  | .slp _ _ _, _ => false
  | .sv _ _ _ _, _ => false
  | .yld k, b => match b with | .yld k' => Nat.beq k k' | _ => false
  | .agg cs, b => match b with | .agg cs' => stillL cs cs' | _ => false
  | .tup cs, b => match b with | .tup cs' => stillL cs cs' | _ => false
  | .fn _ cs, b => match b with | .fn _ cs' => stillL cs cs' | _ => false
  | .bnd _ cs, b => match b with | .bnd _ cs' => stillL cs cs' | _ => false
  | _, _ => true
def stillL : List AV → List AV → Bool
  | [], _ => true
  | c :: cs, b => match b with | c' :: cs' => still c c' && stillL cs cs' | [] => false
end

/-- The slots that a loop does not write still are what they were. -/
def stillT (w : List Nat) : Nat → List AV → List AV → Bool
  | _, [], _ => true
  | i, v :: vs, b => match b with | v' :: vs' => (memN i w || still v v') && stillT w (i + 1) vs vs' | [] => false
def stillF : List (List AV) → List (List AV) → Bool
  | [], _ => true
  | f :: fs, b => match b with | f' :: fs' => stillL f f' && stillF fs fs' | [] => false

/-- The annotation's own slices are the same ones, and its blocks are there. -/
def stillA (s0 s : St) : List LA → Bool
  | [] => true
  | a :: as => (match a with
      | .slot _ _ | .cell _ _ _ => true
      | a => match laSl s0 a, laSl s a with
        | some j, some k => Nat.beq j k
        | none, _ => true
        | _, _ => false) && stillA s0 s as

def exBeq : Ex → Ex → Bool
  | .normal, .normal => true
  | .exit i, .exit j => Nat.beq i j
  | .ret, .ret => true
  | _, _ => false
def phBeq : Ph → Ph → Bool
  | .ready, .ready => true
  | .busy, .busy => true
  | .done e, .done e' => exBeq e e'
  | .exhausted, .exhausted => true
  | _, _ => false
def natsBeq : List Nat → List Nat → Bool
  | [], [] => true
  | a :: l, b :: m => Nat.beq a b && natsBeq l m
  | _, _ => false
def kmBeq : List (Int × FuncId) → List (Int × FuncId) → Bool
  | [], [] => true
  | (n, f) :: l, (m, g) :: k => decide (n = m) && Nat.beq f g && kmBeq l k
  | _, _ => false

/-- A block is what the head says of it. -/
def sameB : Blk → Blk → Bool
  | .gone, _ => true
  | .cells cs, b => match b with | .cells ds => sameCs cs ds | _ => false
  | .kmap es, b => match b with | .kmap fs => kmBeq es fs | _ => false
  | .loop f p ph ts, b => match b with | .loop f' p' ph' ts' => Nat.beq f f' && natsBeq p p' && phBeq ph ph' && stillL ts ts' && Nat.beq (listLen ts) (listLen ts') | _ => false
  | .grow _ _ _, _ => false
  | .dmap _ _, _ => false
  | .diter _ _ _, _ => false
  | .log _ _ _ _, _ => false
  | .lof _ _ _, _ => false
/-- The blocks are what the head says of them. -/
def sameBs : List Blk → List Blk → Bool
  | [], _ => true
  | b :: h, c :: h' => sameB b c && sameBs h h'
  | _ :: _, [] => false

def fits (as : List LA) (w : List Nat) (s0 s : St) : Bool :=
  stillT w 0 (forget (laKs s0 as) w 0 s0.top) s.top && stillF (noSlpF (laKs s0 as) s0.below) s.below && stillA s0 s as && sameBs (head0 s0 w as).heap s.heap

def aloop (as : List LA) (w : List Nat) (body : (Ex → St → Prop) → St → Prop) (k : Ex → St → Prop) (s : St) : Prop :=
  match getLAs (prepLAs s as) as with
  | none => False
  | some x0 => if fits as w (prepLAs s as) (prepLAs s as) then ∃ (I : dens (laTys as) → Prop) (μ : dens (laTys as) → Nat), I x0 ∧ ∀ x, I x →
      body (fun e s' => match e with
        | .normal => match getLAs s' as with
          | some x' => if fits as w (prepLAs s as) s' then I x' ∧ μ x' < μ x else False
          | none => False
        | e => k e s') (tmpl (prepLAs s as) w as x)
    else False

/-- A loop round by round. -/
def aunroll (body : (Ex → St → Prop) → St → Prop) (k : Ex → St → Prop) : Nat → St → Prop
  | 0, _ => False
  | n + 1, s => body (fun e s' => match e with | .normal => aunroll body k n s' | e => k e s') s

/-- A part of a code. -/
def childOf : Code → Nat → Option Code
  | .seq a b, i => if Nat.beq i 0 then some a else some b
  | .cond _ a b, i => if Nat.beq i 0 then some a else some b
  | .block _ c, _ => some c
  | .loop c, _ => some c
  | .scope c, _ => some c
  | .rangeFunc _ _ a b, i => if Nat.beq i 0 then some a else some b
  | _, _ => none
/-- The part of a function's code that a path leads to (the path turned round). -/
def codeAt (P : Program) (f : FuncId) : List Nat → Option Code
  | [] => match P.funcs[f]? with
    | some fn => fn.body
    | none => none
  | i :: p => match codeAt P f p with
    | some c => childOf c i
    | none => none

def setPh (h : List Blk) (j : Nat) (ph : Ph) : List Blk :=
  match hget h j with
  | .loop f p _ ts => hset h j (.loop f p ph ts)
  | _ => h

def popped (s : St) : Option St :=
  match s.below with
  | f :: fs => some { top := f, below := fs, heap := s.heap }
  | [] => none

/-- The frame that only names a range over a function is taken off. -/
def named (j : Nat) (s : St) : Option St :=
  match s.top with
  | [.yld i] => if Nat.beq i j then popped s else none
  | _ => none
def namedB (j : Nat) (s : St) : Bool :=
  match s.below with
  | [.yld i] :: _ => Nat.beq i j
  | _ => false

/-- Rows that keep a slice that is not there are left out. -/
def pruneK (h : List Blk) : List LA → (List LA → Prop) → Prop
  | [], k => k []
  | .keep j tid e :: as, k => match hget h j with
    | .grow _ _ _ => pruneK h as (fun l => k (.keep j tid e :: l))
    | _ => pruneK h as k
  | .kmp j e :: as, k => match hget h j with
    | .dmap _ _ => pruneK h as (fun l => k (.kmp j e :: l))
    | _ => pruneK h as k
  | .kit j e :: as, k => match hget h j with
    | .diter _ _ _ => pruneK h as (fun l => k (.kit j e :: l))
    | _ => pruneK h as k
  | .slot i t :: as, k => pruneK h as (fun l => k (.slot i t :: l))
  | .cell i o t :: as, k => pruneK h as (fun l => k (.cell i o t :: l))
  | .gslot i t e :: as, k => pruneK h as (fun l => k (.gslot i t e :: l))
  | .gcell i o t e :: as, k => pruneK h as (fun l => k (.gcell i o t e :: l))

theorem pruneK_spec {h : List Blk} : ∀ {as : List LA} {k : List LA → Prop}, pruneK h as k → ∃ l, k l
  | [], _, hk => ⟨[], hk⟩
  | .keep j tid e :: as, k, hk => by
    unfold pruneK at hk
    split at hk
    · obtain ⟨l, hl⟩ := pruneK_spec hk; exact ⟨_, hl⟩
    · exact pruneK_spec hk
  | .kmp j e :: as, k, hk => by
    unfold pruneK at hk
    split at hk
    · obtain ⟨l, hl⟩ := pruneK_spec hk; exact ⟨_, hl⟩
    · exact pruneK_spec hk
  | .kit j e :: as, k, hk => by
    unfold pruneK at hk
    split at hk
    · obtain ⟨l, hl⟩ := pruneK_spec hk; exact ⟨_, hl⟩
    · exact pruneK_spec hk
  | .slot i t :: as, k, hk => by obtain ⟨l, hl⟩ := pruneK_spec (as := as) hk; exact ⟨_, hl⟩
  | .cell i o t :: as, k, hk => by obtain ⟨l, hl⟩ := pruneK_spec (as := as) hk; exact ⟨_, hl⟩
  | .gslot i t e :: as, k, hk => by obtain ⟨l, hl⟩ := pruneK_spec (as := as) hk; exact ⟨_, hl⟩
  | .gcell i o t e :: as, k, hk => by obtain ⟨l, hl⟩ := pruneK_spec (as := as) hk; exact ⟨_, hl⟩

def refsH : List Blk → List Nat
  | [] => []
  | .cells cs :: h => refsA cs ++ refsH h
  | _ :: h => refsH h

/-- A region's own hint may give all own slices away ahead of it: those that the frame holds; those in variables as well. -/
def Ctx.ahead (C : Ctx) (f : FuncId) (id : Nat) (s : St) : St :=
  bif Nat.beq ((C.hint f).unr id) 500 then s.freezeAll (refsA s.top)
  else bif Nat.beq ((C.hint f).unr id) 501 then s.freezeAll (refsH s.heap) else s

/-- A region's own hint may ask for a slot's number case by case: 3000 + 16 * slot + so many. -/
def forkN (x : Int) (i : Nat) (s : St) (k : St → Prop) : Nat → Prop
  | 0 => True
  | n + 1 => (x = (n : Int) → k { s with top := fset s.top i (.d (.int .i64) (n : Int)) }) ∧ forkN x i s k n
def forkW (m i : Nat) (s : St) (k : St → Prop) : Prop :=
  match fget s.top i with
  | .d (.int .i64) x => (0 ≤ (x : Int) ∧ (x : Int) < (m : Int)) ∧ forkN x i s k m
  | _ => False
def Ctx.fork (C : Ctx) (f : FuncId) (id : Nat) (s : St) (k : St → Prop) : Prop :=
  if Nat.ble 3000 ((C.hint f).unr id) then forkW (Nat.mod (Nat.sub ((C.hint f).unr id) 3000) 16) (Nat.div (Nat.sub ((C.hint f).unr id) 3000) 16) s k else k s

def awp (C : Ctx) (call : CallT) (f : FuncId) : List Nat → Code → (Ex → St → Prop) → St → Prop
  | _, .skip, k, s => k .normal s
  | _, .label _, k, s => k .normal s
  | _, .region id ops draw, k, s => C.fork f id s (fun s => forceC ((C.hint f).unr id) (C.ahead f id s) fun s => if draw then adraw C call ((C.hint f).mode id) ops s (k .normal) else aops C call ((C.hint f).mode id) ops ops.toList s (k .normal))
  | p, .seq a b, k, s => awp C call f (0 :: p) a (fun e s' => match e with | .normal => awp C call f (1 :: p) b k s' | e => k e s') s
  | p, .cond c a b, k, s =>
    match ev s.top c with
    | .tt => awp C call f (0 :: p) a k s
    | .ff => awp C call f (1 :: p) b k s
    | .d .bool x => splitB ((C.hint f).cond c) x (awp C call f (0 :: p) a k (setTmp c .tt s)) (awp C call f (1 :: p) b k (setTmp c .ff s))
    | _ => False
  | p, .block id c, k, s => awp C call f (0 :: p) c (fun e s' => match e with | .exit i => if Nat.beq i id then k .normal s' else k (.exit i) s' | e => k e s') s
  | p, .scope c, k, s => awp C call f (0 :: p) c k s
  | _, .exit id, k, s => k (.exit id) s
  | _, .ret, k, s => k .ret s
  | p, .loop body, k, s =>
    match firstRegion body with
    | some r => match (C.hint f).unr r with
      | 0 => pruneK s.heap ((C.hint f).las r) (fun as => aloop as (dsts body) (awp C call f (0 :: p) body) k s)
      | n => if Nat.beq n 1000 then awp C call f (0 :: p) body (fun e s' => match e with
          | .normal => pruneK s'.heap ((C.hint f).las r) (fun as => aloop as (dsts body) (awp C call f (0 :: p) body) k s')
          | e => k e s') s
        else aunroll (awp C call f (0 :: p) body) k n s
    | none => False
  | p, .rangeFunc g _ _ _, k, s =>
    match ev s.top g with
    | .fn h cap => if enterOk C h then
        call (.fn h) (.yld (hlen s.heap) :: cap) { top := [.yld (hlen s.heap)], below := s.top :: s.below, heap := s.heap ++ [.loop f p .ready s.top] } (fun _ s' =>
          match named (hlen s.heap) s' with
          | none => False
          | some s1 => match hget s1.heap (hlen s.heap) with
            | .loop _ _ .ready _ => k .normal { s1 with heap := setPh s1.heap (hlen s.heap) .exhausted }
            | .loop _ _ (.done e) _ => k e { s1 with heap := setPh s1.heap (hlen s.heap) .exhausted }
            | _ => False)
      else False
    | _ => False
  | _, _, _, _ => False

/-! ### Calls -/
def resV (C : Ctx) (s : St) : List ResultVar → Option (List AV)
  | [] => some []
  | .tmp t :: rs => match resV C s rs with
    | some l => some (fget s.top t :: l)
    | none => none
  | .cell a t :: rs => match fget s.top a with
    | .own k off => match hget s.heap k with
      | .cells cs => match loadOwn C t cs off, resV C s rs with
        | some v, some l => some (v :: l)
        | _, _ => none
      | _ => none
    | _ => none

def tup1 : List AV → AV
  | [v] => v
  | vs => .tup vs

def pads : List AV → Nat → List AV
  | [], n => List.replicate n .und
  | v :: vs, n => v :: pads vs (n - 1)

def contract (sp : FSpec) (args : List AV) (s : St) (k : AV → St → Prop) : Prop :=
  match asDs s.heap sp.ps args with
  | none => False
  | some x => sp.pre x ∧ k (outV sp.rs (sp.post x)) (if flats sp.rs then s else s.freezeAll (refsA args))

def contractG (g : GSpec) (args : List AV) (s : St) (k : AV → St → Prop) : Prop :=
  match asDs s.heap g.ps args with
  | none => False
  | some x => g.pre x ∧ k (.sl (hlen (s.freezeAll (refsA args)).heap)) { s.freezeAll (refsA args) with heap := (s.freezeAll (refsA args)).heap ++ [.grow g.tid g.e (g.post x)] }

def inlined (C : Ctx) (call : CallT) (f : FuncId) (fn : Func) (args : List AV) (s : St) (k : AV → St → Prop) : Prop :=
  match fn.body with
  | none => False
  | some code =>
    if Nat.ble (listLen args) fn.ntmps then
      awp C call f [] code (fun e s' =>
        match e with
        | .exit _ => False
        | _ => match resV C s' fn.results.toList with
          | none => False
          | some vs => match popped s' with
            | none => False
            | some s'' => k (tup1 vs) s'')
        { top := pads args fn.ntmps, below := s.top :: s.below, heap := s.heap }
    else False

def setPs : List AV → List Nat → List AV → List AV
  | ts, t :: ps, v :: vs => setPs (fset ts t v) ps vs
  | ts, _, _ => ts

/-- One round of a range over a function. -/
def around (C : Ctx) (call : CallT) (j : Nat) (args : List AV) (s : St) (k : AV → St → Prop) : Prop :=
  match hget s.heap j with
  | .loop f p .ready ts => match codeAt C.P f p with
    | some (.rangeFunc _ ps as bd) =>
      if Nat.beq (listLen args) (listLen' ps.toList) then
        awp C call f (0 :: p) as (fun e s1 => match e with
          | .normal => if namedB j s1 then match hget s1.heap j with
            | .loop _ _ .ready _ => awp C call f (1 :: p) bd (fun e s2 => match popped s2 with
              | none => False
              | some s3 => match named j s3 with
                | none => False
                | some s4 => match hget s4.heap j with
                  | .loop _ _ .busy _ => match e with
                    | .normal => k .tt { s4 with heap := setPh s4.heap j .ready }
                    | e => k .ff { s4 with heap := setPh s4.heap j (.done e) }
                  | _ => False) { s1 with heap := setPh s1.heap j .busy }
            | _ => False
            else False
          | _ => False) { top := setPs ts ps.toList args, below := [.yld j] :: s.top :: s.below, heap := s.heap }
      else False
    | _ => False
  | _ => False
where
  listLen' : List Nat → Nat
    | [] => 0
    | _ :: l => listLen' l + 1

/-- An own slice is sorted. -/
def asort (g : SSpec) (args : List AV) (s : St) (k : AV → St → Prop) : Prop :=
  match args with
  | [.sl j, .fn c []] => if Nat.beq c g.cmp then match hget s.heap j with
      | .grow tid e xs => if Nat.beq tid g.tid then match cast? (.arr e) (.arr g.e) xs with
          | some ys => ((ys.length : Int) ≤ 4611686018427387903) ∧ k (.tup []) { s with heap := hset s.heap j (.grow g.tid g.e (g.f ys)) }
          | none => False
        else False
      | _ => False
    else False
  | _ => False

/-- An own slice of numbers is sorted by what an own map says. -/
def asInts : (e : Ty) → List e.den → Option (List Int)
  | .int .i64, xs => some xs
  | _, _ => none
def asIntM : (e : Ty) → List (Int × e.den) → Option (List (Int × Int))
  | .int .i64, m => some m
  | _, _ => none
def asortM (g : MSpec) (args : List AV) (s : St) (k : AV → St → Prop) : Prop :=
  match args with
  | [.sl j, .fn c [.own b 0]] => if Nat.beq c g.cmp then match hget s.heap j, hget s.heap b with
      | .grow tid e xs, .cells [.sl m] => match hget s.heap m with
        | .dmap e' mm => if Nat.beq tid g.tid then match asInts e xs, asIntM e' mm with
            | some ys, some nn => ((ys.length : Int) ≤ 4611686018427387903) ∧ k (.tup []) { s with heap := hset s.heap j (.grow g.tid (.int .i64) (g.f nn ys)) }
            | _, _ => False
          else False
        | _ => False
      | _, _ => False
    else False
  | _ => False

/-- One who listens is told of one more. -/
def alog (j : Nat) (ys : List Ty) (Y : Proto ys) (xs : List (tyOf ys).den) (args : List AV) (s : St) (k : AV → St → Prop) : Prop :=
  match asDs s.heap ys args with
  | none => False
  | some y => if noRefs' args then
      (∃ rest, Y.items = xs ++ redens ys y :: rest) ∧ ∀ own, k .tt { s with heap := hset s.heap j (.log ys Y own (xs ++ [redens ys y])) } ∧ k .ff { s with heap := hset s.heap j (.lof ys Y own) }
    else False

/-- What has been told to one's own listener. -/
def LogT : Blk → Type
  | .log ys _ _ _ => List (tyOf ys).den
  | _ => Unit
def relog : (b : Blk) → (Nat → Prop) → LogT b → St → St
  | .log ys Y _ _, own, z, s => { s with heap := hset s.heap 0 (.log ys Y own z) }
  | _, _, _, s => s
def logIs : (b : Blk) → Blk → (LogT b → Prop) → Prop
  | .log ys Y _ _, b', p => ∃ own z, b' = .log ys Y own z ∧ p z
  | .lof _ _ _, _, p => p ()
  | .gone, _, p => p ()
  | .cells _, _, p => p ()
  | .grow _ _ _, _, p => p ()
  | .kmap _, _, p => p ()
  | .dmap _ _, _, p => p ()
  | .diter _ _ _, _, p => p ()
  | .loop _ _ _ _, _, p => p ()

/-- The frame on top names a range over a function. -/
def namedT (j : Nat) (s : St) : Bool :=
  match s.top with
  | [.yld i] => Nat.beq i j
  | _ => false

/-- A range over an iterator of which a contract tells: rounds with what it yields. -/
def aiter0 (call : CallT) (isp : ISpec) (x : dens isp.ps) (j : Nat) (s : St) (k : AV → St → Prop) (as : List LA) : Prop :=
  match getLAs (prepLAs s as) as with
  | none => False
  | some x0 => if namedT j s && namedT j (prepLAs s as) && fits as [] (prepLAs s as) (prepLAs s as) then
      ∃ I : List (tyOf isp.ys).den → LogT (hget (prepLAs s as).heap 0) → dens (laTys as) → Prop,
        logIs (hget (prepLAs s as).heap 0) (hget (prepLAs s as).heap 0) (fun z => I [] z x0) ∧
        (∀ xs y rest, isp.items x = xs ++ y :: rest → ∀ own z v, I xs z v → call (.yld j) (outs isp.ys (undens isp.ys y)) (relog (hget (prepLAs s as).heap 0) own z (tmpl (prepLAs s as) [] as v)) (fun r s' => match r with
          | .tt => match getLAs s' as with
            | some v' => if fits as [] (prepLAs s as) s' then logIs (hget (prepLAs s as).heap 0) (hget s'.heap 0) (fun z' => I (xs ++ [y]) z' v') else False
            | none => False
          | .ff => k (.tup []) s'
          | _ => False)) ∧
        ∀ own z v, I (isp.items x) z v → k (.tup []) (relog (hget (prepLAs s as).heap 0) own z (tmpl (prepLAs s as) [] as v))
    else False

/-- .. reckoned by value. A range over an iterator of which a contract tells: rounds with what it yields. -/
def aiter (call : CallT) (isp : ISpec) (x : dens isp.ps) (j : Nat) (s : St) (k : AV → St → Prop) (as : List LA) : Prop :=
  forceS (prepLAs s as) fun s0 => match getLAs s0 as with
  | none => False
  | some x0 => if namedT j s && namedT j s0 && fits as [] s0 s0 then
      ∃ I : List (tyOf isp.ys).den → LogT (hget s0.heap 0) → dens (laTys as) → Prop,
        logIs (hget s0.heap 0) (hget s0.heap 0) (fun z => I [] z x0) ∧
        (∀ xs y rest, isp.items x = xs ++ y :: rest → ∀ own z v, I xs z v → forceS (relog (hget s0.heap 0) own z (tmpl s0 [] as v)) fun σ => call (.yld j) (outs isp.ys (undens isp.ys y)) σ (fun r s' => match r with
          | .tt => match getLAs s' as with
            | some v' => if fits as [] s0 s' then logIs (hget s0.heap 0) (hget s'.heap 0) (fun z' => I (xs ++ [y]) z' v') else False
            | none => False
          | .ff => k (.tup []) s'
          | _ => False)) ∧
        ∀ own z v, I (isp.items x) z v → forceS (relog (hget s0.heap 0) own z (tmpl s0 [] as v)) fun σ => k (.tup []) σ
    else False
theorem aiter_eq (call : CallT) (isp : ISpec) (x : dens isp.ps) (j : Nat) (s : St) (k : AV → St → Prop) (as : List LA) : aiter call isp x j s k as = aiter0 call isp x j s k as := by
  unfold aiter aiter0
  simp only [forceS_eq]
def aiterC (C : Ctx) (call : CallT) (f : FuncId) (isp : ISpec) (args : List AV) (s : St) (k : AV → St → Prop) : Prop :=
  match args with
  | .yld j :: cap => match asRps isp.ps cap with
    | none => False
    | some x => isp.pre x ∧ pruneK s.heap ((C.hint f).las 0) (aiter call isp x j s k)
  | _ => False

/-! ### Closures that work on their own blocks -/
mutual
/-- The same value. -/
def eqV : AV → AV → Prop
  | .junk, b => match b with | .junk => True | _ => False
  | .tt, b => match b with | .tt => True | _ => False
  | .ff, b => match b with | .ff => True | _ => False
  | .nils, b => match b with | .nils => True | _ => False
  | .nilf, b => match b with | .nilf => True | _ => False
  | .nilp, b => match b with | .nilp => True | _ => False
  | .d t x, b => match b with | .d u y => (match cast? t u x with | some z => z = y | none => False) | _ => False
  | .rp t x, b => match b with | .rp u y => (match cast? t u x with | some z => z = y | none => False) | _ => False
  | .own k o, b => match b with | .own k' o' => (match Nat.beq k k' && Nat.beq o o' with | true => True | false => False) | _ => False
  | .fn f cs, b => match b with | .fn g ds => (match Nat.beq f g with | true => eqVs cs ds | false => False) | _ => False
  | .bnd f cs, b => match b with | .bnd g ds => (match Nat.beq f g with | true => eqVs cs ds | false => False) | _ => False
  | _, _ => False
def eqVs : List AV → List AV → Prop
  | [], b => match b with | [] => True | _ => False
  | c :: cs, b => match b with | d :: ds => eqV c d ∧ eqVs cs ds | [] => False
end
/-- A value is what a template says of it. -/
def impC (a b : AV) : Prop :=
  match b with
  | .junk => True
  | .d t x => (match a with
    | .tt => (match cast? .bool t true with | some z => z = x | none => False)
    | .ff => (match cast? .bool t false with | some z => z = x | none => False)
    | a => eqV a (.d t x))
  | b => eqV a b
def impL : List AV → List AV → Prop
  | [], b => match b with | [] => True | _ => False
  | c :: cs, b => match b with | d :: ds => impC c d ∧ impL cs ds | [] => False
def impH : List Blk → List Blk → Prop
  | _, [] => True
  | [], _ :: _ => False
  | b :: h, t :: ts => (match t with
    | .gone => True
    | .cells ds => (match b with | .cells cs => impL cs ds | _ => False)
    | _ => False) ∧ impH h ts
def isCells : Blk → Bool
  | .cells _ => true
  | _ => false
mutual
/-- A template's value stands on the template's variables only. -/
def okV (t : List Blk) : AV → Bool
  | .own k _ => isCells (hget t k)
  | .sl _ => false
  | .slp _ _ _ => false
  | .sv _ _ _ _ => false
  | .yld _ => false
  | .agg cs => okVs t cs
  | .tup cs => okVs t cs
  | .fn _ cs => okVs t cs
  | .bnd _ cs => okVs t cs
  | _ => true
def okVs (t : List Blk) : List AV → Bool
  | [] => true
  | c :: cs => okV t c && okVs t cs
end
def okH (t : List Blk) : List Blk → Bool
  | [] => true
  | b :: bs => (match b with | .cells cs => okVs t cs | .gone => true | _ => false) && okH t bs
/-- Variables at the same places. -/
def sameSh : List Blk → List Blk → Bool
  | [], b => match b with | [] => true | _ => false
  | c :: cs, b => match b with | d :: ds => (isCells c == isCells d) && sameSh cs ds | [] => false
def putH : List Blk → List Blk → List Blk
  | [], _ => []
  | b :: h, [] => b :: h
  | b :: h, t :: ts => (match t with | .cells cs => .cells cs | _ => b) :: putH h ts
def lenTy : List Ty → Nat
  | [] => 0
  | _ :: l => lenTy l + 1
def shOk (hsp : HSpec) (x : dens hsp.ps) (y : dens (laTys hsp.las)) : Bool :=
  okH (hsp.h y) (hsp.h y) && okVs (hsp.h y) hsp.cap && (okH (hsp.h (hsp.aft x y)) (hsp.h (hsp.aft x y)) && sameSh (hsp.h y) (hsp.h (hsp.aft x y)))
def aproc (hsp : HSpec) (args : List AV) (s : St) (k : AV → St → Prop) : Prop :=
  match asDs s.heap hsp.ps (takeN (lenTy hsp.ps) args), getLAs s hsp.las with
  | some x, some y => if noRefs' (takeN (lenTy hsp.ps) args) && shOk hsp x y then
      eqVs (dropN (lenTy hsp.ps) args) hsp.cap ∧ impH s.heap (hsp.h y) ∧ hsp.pre x y ∧ k (outV hsp.rs (hsp.post x y)) { s with heap := putH s.heap (hsp.h (hsp.aft x y)) }
    else False
  | _, _ => False

def acall (C : Ctx) : Nat → CallT
  | 0, _, _, _, _ => False
  | n + 1, .yld j, args, s, k => match hget s.heap j with
    | .log ys Y _ xs => alog j ys Y xs args s k
    | _ => around C (acall C n) j args s k
  | n + 1, .fn f, args, s, k =>
    match C.iters f with
    | some isp => aiterC C (acall C n) f isp args s k
    | none => match C.fresh f with
      | some g => contractG g args s k
      | none => match C.spec f with
        | some sp => contract sp (maskAs sp.ps args) s k
        | none => match C.sorts f with
          | some g => asort g args s k
          | none => match C.sortsM f with
            | some g => asortM g args s k
            | none => match C.nilG f with
              | some g => (match args with
                | .nils :: rest => contractG g rest s k
                | _ => False)
              | none => match C.procs f with
                | some hsp => aproc hsp args s k
                | none => match C.P.funcs[f]? with
                  | none => False
                  | some fn => inlined C (acall C n) f fn args s k

/-- A function that is told as data is called as a function. -/
def normF : AV → AV
  | .d t x => match t, x with
    | .fnc, f => .fn f []
    | t, x => .d t x
  | v => v
def normFs : List AV → List AV
  | [] => []
  | v :: vs => normF v :: normFs vs

/-- The whole function, by its own text. -/
def fnwp (C : Ctx) (n : Nat) (f : FuncId) (sp : FSpec) (x : dens sp.ps) : Prop :=
  match C.P.funcs[f]? with
  | none => False
  | some fn => inlined C (acall C n) f fn (normFs (outs sp.ps x)) { top := [], below := [], heap := [] } (fun v s' =>
      match (match sp.rs with
        | [] => match v with | .tup [] => asDs s'.heap sp.rs [] | _ => none
        | [_] => asDs s'.heap sp.rs [v]
        | _ => match v with | .tup vs => asDs s'.heap sp.rs vs | _ => none) with
      | some y => y = sp.post x
      | none => False)

/-- The whole function, of one that hands back a slice of its own. -/
def fnwpG (C : Ctx) (n : Nat) (f : FuncId) (sp : GSpec) (x : dens sp.ps) : Prop :=
  match C.P.funcs[f]? with
  | none => False
  | some fn => inlined C (acall C n) f fn (normFs (outs sp.ps x)) { top := [], below := [], heap := [] } (fun v s' =>
      match v with
      | .sl k => match hget s'.heap k with
        | .grow tid e xs => if Nat.beq tid sp.tid then match cast? (.arr e) (.arr sp.e) xs with
            | some ys => ys = sp.post x
            | none => False
          else False
        | _ => False
      | .nils => [] = sp.post x
      | _ => False)

/-- The whole iterator. -/
def fnwpI (C : Ctx) (n : Nat) (f : FuncId) (isp : ISpec) (x : dens isp.ps) : Prop :=
  match C.P.funcs[f]? with
  | none => False
  | some fn => ∀ (Y : Proto isp.ys) (own : Nat → Prop), Y.items = isp.items x → inlined C (acall C n) f fn (.yld 0 :: rps isp.ps x) { top := [], below := [], heap := [.log isp.ys Y own []] } (fun v s' =>
      match v with
      | .tup [] => (∃ own', hget s'.heap 0 = .log isp.ys Y own' (isp.items x)) ∨ ∃ own', hget s'.heap 0 = .lof isp.ys Y own'
      | _ => False)

/-- The whole closure, on its own blocks. -/
def pinsOf : Nat → List Blk → List AV
  | _, [] => []
  | k, b :: bs => (match b with | .cells _ => .own k 0 | _ => .junk) :: pinsOf (k + 1) bs
def resOf (rs : List Ty) (h : List Blk) (v : AV) : Option (dens rs) :=
  match rs with
  | [] => match v with | .tup [] => asDs h [] [] | _ => none
  | [t] => asDs h [t] [v]
  | t :: u :: ts => match v with | .tup vs => asDs h (t :: u :: ts) vs | _ => none
def refsOfRes (rs : List Ty) (v : AV) : List Nat :=
  match rs with
  | [_] => refsA [v]
  | _ => match v with | .tup vs => refsA vs | _ => []
def fnwpH (C : Ctx) (n : Nat) (f : FuncId) (hsp : HSpec) (x : dens hsp.ps) (y : dens (laTys hsp.las)) : Prop :=
  match C.P.funcs[f]? with
  | none => False
  | some fn => if shOk hsp x y then inlined C (acall C n) f fn (normFs (outs hsp.ps x) ++ hsp.cap) { top := pinsOf 0 (hsp.h y), below := [], heap := hsp.h y } (fun v s' =>
      match resOf hsp.rs s'.heap v with
      | some r => r = hsp.post x y ∧ impH (s'.freezeAll (refsOfRes hsp.rs v)).heap (hsp.h (hsp.aft x y)) ∧ (match sameCs (pinsOf 0 (hsp.h y)) (s'.freezeAll (refsOfRes hsp.rs v)).top with | true => True | false => False)
      | none => False) else False

/-! ### What the abstract values mean -/
abbrev Pr := Addr → Option Value

def strOf (l : List Int) : ByteArray := ⟨(l.map fun n => UInt8.ofNat n.toNat).toArray⟩

def rdL {α : Type} (R : α → List Value → Prop) : List α → List Value → Prop
  | [], vs => vs = []
  | x :: xs, vs => ∃ c vs', vs = c ++ vs' ∧ R x c ∧ rdL R xs vs'

def rowAt (Ψ : Pr) (a : Option Addr) (vs : List Value) : Prop :=
  ∃ g off, a = some ⟨g, off, none⟩ ∧ ∀ j u, vs[j]? = some u → Ψ ⟨g, off + j, none⟩ = some u

mutual
def rdR (Ψ : Pr) {α β : Type} (Ra : α → List Value → Prop) (Rb : β → List Value → Prop) : Rose (α × β) → List Value → Prop
  | .node x ys, vs => ∃ u s w, vs = u ++ s :: w ∧ Ra x.1 u ∧ Rb x.2 w ∧ ∃ a cap, s = .slice a ys.length cap ∧ ys.length ≤ cap ∧ cap ≤ maxLen ∧ (ys = [] ∨ ∃ cells, rdRs Ψ Ra Rb ys cells ∧ rowAt Ψ a cells)
def rdRs (Ψ : Pr) {α β : Type} (Ra : α → List Value → Prop) (Rb : β → List Value → Prop) : List (Rose (α × β)) → List Value → Prop
  | [], vs => vs = []
  | y :: ys, vs => ∃ c vs', vs = c ++ vs' ∧ rdR Ψ Ra Rb y c ∧ rdRs Ψ Ra Rb ys vs'
end

def reads (Ψ : Pr) : (t : Ty) → t.den → List Value → Prop
  | .int k, n, vs => vs = [.int k n] ∧ k.has n
  | .bool, b, vs => vs = [.bool b]
  | .fnc, f, vs => vs = [.func (.func f) #[] #[]]
  | .any, _, vs => ∃ v : Value, vs = [v] ∧ v.oneCell' = true
  | .str, l, vs => vs = [.string (strOf l)] ∧ (∀ c ∈ l, 0 ≤ c ∧ c ≤ 255) ∧ l.length ≤ maxLen
  | .arr e, xs, vs => ∃ a cap, vs = [.slice a xs.length cap] ∧ xs.length ≤ cap ∧ cap ≤ maxLen ∧ (xs = [] ∨ ∃ cells, rdL (reads Ψ e) xs cells ∧ rowAt Ψ a cells)
  | .vec n e, xs, vs => xs.length = n ∧ rdL (reads Ψ e) xs vs
  | .unit, _, vs => vs = []
  | .pair a b, x, vs => ∃ u v, vs = u ++ v ∧ reads Ψ a x.1 u ∧ reads Ψ b x.2 v
  | .rose a b, x, vs => rdR Ψ (reads Ψ a) (reads Ψ b) x vs

def rv (Ψ : Pr) (t : Ty) (x : t.den) (v : Value) : Prop := ∃ cs, reads Ψ t x cs ∧ if t.isAgg then v = .agg cs.toArray else cs = [v]

/-- A loop's yield. -/
def yldV (l : Nat) : Value := .func (.yield l) #[] #[]

/-- What stands for a slice or map that is still to come. -/
def hole : Value := .nilFunc

mutual
def RelV (Ψ : Pr) (β : List Value) : AV → Value → Prop
  | .junk, _ => True
  | .und, v => v = undef
  | .tt, v => v = .bool true
  | .ff, v => v = .bool false
  | .d t x, v => rv Ψ t x v
  | .fs e xs, v => ∃ a, v = .slice a xs.length xs.length ∧ rv Ψ (.arr e) xs v
  | .nils, v => v = .slice none 0 0
  | .agg cs, v => ∃ vs : List Value, v = .agg vs.toArray ∧ RelL Ψ β cs vs ∧ ∀ u ∈ vs, u.oneCell' = true
  | .tup cs, v => ∃ vs : List Value, v = .tuple vs.toArray ∧ RelL Ψ β cs vs
  | .fn f cs, v => ∃ vs : List Value, v = .func (.func f) #[] vs.toArray ∧ RelL Ψ β cs vs
  | .bnd f cs, v => ∃ vs : List Value, v = .func (.func f) vs.toArray #[] ∧ RelL Ψ β cs vs
  | .sv k sz lo hi, v => ∃ g n c, β[k]? = some (.slice (some ⟨g, 0, none⟩) n c) ∧ 0 ≤ lo ∧ lo ≤ hi ∧ hi ≤ n ∧ v = .slice (some ⟨g, lo.toNat * sz, none⟩) (hi.toNat - lo.toNat) (c - lo.toNat)
  | .nilf, v => v = .nilFunc
  | .nilp, v => v = .pointer none
  | .own k off, v => ∃ g, β[k]? = some (.pointer (some ⟨g, 0, none⟩)) ∧ v = .pointer (some ⟨g, off, none⟩)
  | .sl k, v => β[k]? = some v ∧ v ≠ hole
  | .slp k sz i, v => ∃ g n c, β[k]? = some (.slice (some ⟨g, 0, none⟩) n c) ∧ 0 ≤ i ∧ i < n ∧ v = .pointer (some ⟨g, i.toNat * sz, none⟩)
  | .rp t x, v => ∃ g off cs, v = .pointer (some ⟨g, off, none⟩) ∧ reads Ψ t x cs ∧ ∀ j u, cs[j]? = some u → Ψ ⟨g, off + j, none⟩ = some u
  | .yld k, v => ∃ l, β[k]? = some (yldV l) ∧ v = yldV l
def RelL (Ψ : Pr) (β : List Value) : List AV → List Value → Prop
  | [], vs => vs = []
  | c :: cs, vs => ∃ v vs', vs = v :: vs' ∧ RelV Ψ β c v ∧ RelL Ψ β cs vs'
end

def claims (β : List Value) (k : Nat) (g : Nat) : Blk → Prop
  | .gone => False
  | .log _ _ own _ => own g
  | .lof _ _ own => own g
  | .cells _ => β[k]? = some (.pointer (some ⟨g, 0, none⟩))
  | .grow _ _ _ => ∃ n cap, cap ≠ 0 ∧ β[k]? = some (.slice (some ⟨g, 0, none⟩) n cap)
  | .kmap _ | .dmap _ _ => β[k]? = some (.map (some g))
  | .diter _ _ _ => β[k]? = some (.pointer (some ⟨g, 0, none⟩))
  | .loop _ _ _ _ => β[k]? = some (yldV g)

/-- What is promised of blocks that are no rows: a loop's block for deferred calls; a loop's record; its temporaries. -/
def dAddr (D : Nat) : Addr := ⟨D, 0, some 0⟩
def lAddr (l : Nat) : Addr := ⟨l, 0, some 1⟩
def tAddr (l i : Nat) : Addr := ⟨l, i, some 2⟩
/-- A map that does not change any more is promised as a whole. -/
def mAddr (g : Nat) : Addr := ⟨g, 0, some 3⟩
def encE (x : MapEntry) : Value := .agg #[x.key, x.val, .int .i64 x.born]
def encM (ms : Array MapEntry) (cl : Nat) : Value := .tuple #[.agg (ms.map encE), .int .i64 cl]
def Pm (w : World) (a : Addr) (v : Value) : Prop :=
  match a.spot with
  | none => w.cell? a = some v
  | some 0 => a.off = 0 ∧ w.heap[a.block]? = some (.deferred (some []))
  | some 1 => ∃ r, w.heap[a.block]? = some (.loop r)
  | some 2 => ∃ r, w.heap[a.block]? = some (.loop r) ∧ r.tmps[a.off]? = some v
  | some 3 => ∃ ms cl, w.heap[a.block]? = some (.map ms cl) ∧ v = encM ms cl
  | _ => False

def exCode : Ex → Option Code
  | .normal => none
  | .exit i => some (.exit i)
  | .ret => some .ret
def phOk : Ph → Loop → Prop
  | .ready, r => r.state = .ready ∧ r.pending = none
  | .busy, r => r.state = .busy
  | .done e, r => r.state = .done ∧ r.pending = exCode e
  | .exhausted, r => r.state = .exhausted

def fnV (f : FuncId) : Value := .func (.func f) #[] #[]

/-- A map's entries as data. -/
def mapR (Ψ : Pr) (e : Ty) : List (Int × e.den) → List MapEntry → Prop
  | [], es => es = []
  | p :: m, es => ∃ x es', es = x :: es' ∧ x.key = .int .i64 p.1 ∧ IntKind.i64.has p.1 ∧ rv Ψ e p.2 x.val ∧ mapR Ψ e m es'

/-- The entries that an iterator has not handed out. -/
def leftL (es : List MapEntry) (seen : Array Nat) : List MapEntry := es.filter fun e => !seen.contains e.born

/-- What is fenced off is what it was. -/
structure BelowS (B : Nat → Prop) (w w' : World) : Prop where
  os : w'.os = w.os
  tape : w'.tape = w.tape
  output : w'.output = w.output
  size : w.heap.size ≤ w'.heap.size
  block : ∀ k, B k → w'.heap[k]? = w.heap[k]?
theorem BelowS.refl (B : Nat → Prop) (w : World) : BelowS B w w := ⟨rfl, rfl, rfl, Nat.le_refl _, fun _ _ => rfl⟩
theorem BelowS.trans {B : Nat → Prop} {w w' w'' : World} (h : BelowS B w w') (h' : BelowS B w' w'') : BelowS B w w'' :=
  ⟨h'.os.trans h.os, h'.tape.trans h.tape, h'.output.trans h.output, Nat.le_trans h.size h'.size, fun k hk => (h'.block k hk).trans (h.block k hk)⟩
theorem below_S {B : Nat → Prop} {n : Nat} {w w' : World} (h : Below n w w') (hB : ∀ k, B k → k < n) : BelowS B w w' := ⟨h.os, h.tape, h.output, h.size, fun k hk => h.block k (hB k hk)⟩
theorem out_new {B : Nat → Prop} {n : Nat} (h : ∀ k, B k → k < n) : ¬ B n := fun hb => Nat.lt_irrefl _ (h n hb)
theorem out_ge {B : Nat → Prop} {n m : Nat} (h : ∀ k, B k → k < n) (hm : n ≤ m) : ¬ B m := fun hb => Nat.lt_irrefl _ (Nat.lt_of_lt_of_le (h m hb) hm)
theorem BelowS.of {n : Nat} {w w' : World} (h : BelowS (fun k => k < n) w w') : Below n w w' := ⟨h.os, h.tape, h.output, h.size, h.block⟩

/-- Places of rows, of maps and of marks. -/
def pl (a : Addr) : Prop := a.spot = none ∨ a.spot = some 3 ∨ a.spot = some 0
/-- More is promised, but for marks. -/
def PLm (Ψ Ψ' : Pr) : Prop := ∀ a v, a.spot ≠ some 0 → Ψ a = some v → Ψ' a = some v

def Ext (B : Nat → Prop) (Ψ Ψ' : Pr) : Prop := (∀ a v, Ψ a = some v → Ψ' a = some v) ∧ ∀ ad v, Ψ' ad = some v → Ψ ad = some v ∨ ¬ B ad.block

/-- Blocks that are one's own. -/
def Mine (B : Nat → Prop) (own : Nat → Prop) (w : World) : Prop := ∀ g, own g → ¬ B g ∧ g < w.heap.size
/-- What the one who listens needs of the world, beside its own state. -/
structure Glob (B : Nat → Prop) (w0 : World) (own : Nat → Prop) (Ψ : Pr) (w : World) : Prop where
  low : BelowS B w0 w
  size : ∀ k, B k → k < w.heap.size
  prom : ∀ a v, Ψ a = some v → Pm w a v
  marks : ∀ a v, Ψ a = some v → a.spot = some 0 → ¬ B a.block
  mine : Mine B own w
  free : ∀ a, own a.block → pl a → Ψ a = none

/-- What one's state does not see. -/
def Proto.Stable {ys : List Ty} (Y : Proto ys) : Prop :=
  (∀ xs own Ψ Ψ' w w', Y.R xs own Ψ w → PLm Ψ Ψ' → (∀ g, own g → w'.heap[g]? = w.heap[g]?) → Y.R xs own Ψ' w') ∧
  (∀ own Ψ Ψ' w w', Y.Rf own Ψ w → PLm Ψ Ψ' → (∀ g, own g → w'.heap[g]? = w.heap[g]?) → Y.Rf own Ψ' w')

/-- A round takes the state to the next one, or stops, whatever else is fenced off. -/
def Proto.Step {ys : List Ty} (P : Program) (Y : Proto ys) : Prop :=
  ∀ xs y rest, Y.items = xs ++ y :: rest → ∀ (B : Nat → Prop) w0 own Ψ w vs, Y.R xs own Ψ w → Glob B w0 own Ψ w → RelL Ψ [] (outs ys (undens ys y)) vs →
    ∃ r, w.heap[Y.l]? = some (.loop r) ∧ vs.length = r.params.size ∧
      RoundIn Fence.wide 0 P Y.l r.fn ((r.params.zip vs.toArray).foldl (fun tmps (t, a) => tmps.setIfInBounds t a) r.tmps) r.assign r.body w fun e w' => ∃ v own' Ψ', e = .returned v ∧ Ext B Ψ Ψ' ∧ Glob B w0 own' Ψ' w' ∧
        ((v = .bool true ∧ Y.R (xs ++ [y]) own' Ψ' w') ∨ (v = .bool false ∧ Y.Rf own' Ψ' w'))

def BlkR (P : Program) (B : Nat → Prop) (Ψ : Pr) (β : List Value) (w : World) (k : Nat) : Blk → Prop
  | .gone => True
  | .log _ Y own xs => β[k]? = some (yldV Y.l) ∧ Y.R xs own Ψ w ∧ Mine B own w ∧ Y.Stable ∧ Y.Step P
  | .lof _ Y own => β[k]? = some (yldV Y.l) ∧ Y.Rf own Ψ w ∧ Mine B own w ∧ Y.Stable
  | .cells cs => ∃ g c e, β[k]? = some (.pointer (some ⟨g, 0, none⟩)) ∧ w.heap[g]? = some (.cells c e (0, 0)) ∧ ¬ B g ∧ RelL Ψ β cs c.toList ∧ (∀ u ∈ c.toList, u.oneCell' = true)
  | .grow tid e xs => (∃ ad, β[k]? = some (.slice ad 0 0) ∧ xs = []) ∨
      ∃ g cap cur, β[k]? = some (.slice (some ⟨g, 0, none⟩) xs.length cap) ∧ cap ≠ 0 ∧ ¬ B g ∧ w.heap[g]? = some (.cells cur tid (0, 0)) ∧ xs.length ≤ cap ∧ cap ≤ maxLen ∧ cur.size = cap * e.cells ∧
        rdL (reads Ψ e) xs (cur.toList.take (xs.length * e.cells))
  | .kmap es => ∃ g ms cl, β[k]? = some (.map (some g)) ∧ w.heap[g]? = some (.map ms cl) ∧ ¬ B g ∧ ms.toList.map (fun e => (e.key, e.val)) = es.map (fun p => (Value.int .i64 p.1, fnV p.2))
  | .dmap e m => ∃ g ms cl, β[k]? = some (.map (some g)) ∧ w.heap[g]? = some (.map ms cl) ∧ ¬ B g ∧ mapR Ψ e m ms.toList ∧ (m.map Prod.fst).Nodup ∧ (ms.toList.map (·.born)).Nodup ∧ (∀ x ∈ ms.toList, x.born < cl)
  | .diter e last left => ∃ g gm ms cl seen, β[k]? = some (.pointer (some ⟨g, 0, none⟩)) ∧ w.heap[g]? = some (.mapIter (some gm) cl seen cl) ∧ ¬ B g ∧ Ψ (mAddr gm) = some (encM ms cl) ∧ mapR Ψ e left (leftL ms.toList seen) ∧
      (ms.toList.map (·.born)).Nodup ∧ (∀ x ∈ ms.toList, x.born < cl) ∧ (last = [] ∨ ∃ (p : Int × e.den) (x : MapEntry) (seen' : Array Nat), last = [p] ∧ seen = seen'.push x.born ∧ x ∈ ms.toList ∧ x.key = .int .i64 p.1 ∧ IntKind.i64.has p.1 ∧ rv Ψ e p.2 x.val)
  | .loop f p ph ts => ∃ l r, β[k]? = some (yldV l) ∧ w.heap[l]? = some (.loop r) ∧ ¬ B l ∧ phOk ph r ∧ RelL Ψ β ts r.tmps.toList ∧ Ψ (lAddr l) = some undef ∧ (∀ i v, r.tmps[i]? = some v → Ψ (tAddr l i) = some v) ∧
      ∃ g, codeAt P f p = some (.rangeFunc g r.params r.assign r.body)


/-- The heap's part of the state. -/
structure InvH (P : Program) (B : Nat → Prop) (w0 : World) (Ψ : Pr) (β : List Value) (h : List Blk) (w : World) : Prop where
  low : BelowS B w0 w
  size : ∀ k, B k → k < w.heap.size
  prom : ∀ a v, Ψ a = some v → Pm w a v
  own : ∀ a v, Ψ a = some v → a.spot = some 0 → ¬ B a.block
  len : β.length = h.length
  one : ∀ (k : Nat) (u : Value), β[k]? = some u → u.oneCell' = true
  blk : ∀ k b, h[k]? = some b → BlkR P B Ψ β w k b
  free : ∀ k b g, h[k]? = some b → claims β k g b → ∀ a, a.block = g → pl a → Ψ a = none
  sep : ∀ j k bj bk g, j ≠ k → h[j]? = some bj → h[k]? = some bk → claims β j g bj → claims β k g bk → False

/-- The marks of ranges over functions. -/
def mkD (D : Nat) : Deferred := { target := .collected D, args := #[] }
def Dok (Ψ : Pr) (a : Act) : Prop := ∃ ds : List Nat, a.defers = ds.map mkD ∧ ds.Nodup ∧ ∀ D ∈ ds, Ψ (dAddr D) = some undef

def RelFr (Ψ : Pr) (β : List Value) (fr : List AV) (a : Act) : Prop :=
  Dok Ψ a ∧ RelL Ψ β fr a.tmps.toList

def RelF (Ψ : Pr) (β : List Value) : List (List AV) → List Act → Prop
  | [], as => as = []
  | f :: fs, as => ∃ a as', as = a :: as' ∧ RelFr Ψ β f a ∧ RelF Ψ β fs as'

structure Inv (P : Program) (B : Nat → Prop) (w0 : World) (Ψ : Pr) (β : List Value) (s : St) (acts : List Act) (w : World) : Prop where
  hp : InvH P B w0 Ψ β s.heap w
  fr : RelF Ψ β (s.top :: s.below) acts

/-- What a function's contract says of its calls. -/
def Sat (P : Program) (f : FuncId) (sp : FSpec) : Prop :=
  ∀ (Ψ : Pr) (w : World) (x : dens sp.ps) (args : List Value), (∀ a v, Ψ a = some v → a.spot = none ∧ w.cell? a = some v) →
    RelL Ψ [] (outs sp.ps x) args → sp.pre x →
    Calls P f args.toArray w fun e w' => ∃ v Ψ', e = .returned v ∧ Below w.heap.size w w' ∧ (∀ a u, Ψ a = some u → Ψ' a = some u) ∧
      (∀ a u, Ψ' a = some u → Ψ a = some u ∨ (w.heap.size ≤ a.block ∧ a.spot = none ∧ w'.cell? a = some u)) ∧ RelV Ψ' [] (outV sp.rs (sp.post x)) v

/-- What a contract says of the calls of a function that hands back a slice of its own. -/
def SatGp (P : Program) (f : FuncId) (px : List Value) (sp : GSpec) : Prop :=
  ∀ (Ψ : Pr) (w : World) (x : dens sp.ps) (args : List Value), (∀ a v, Ψ a = some v → a.spot = none ∧ w.cell? a = some v) →
    RelL Ψ [] (outs sp.ps x) args → sp.pre x →
    Calls P f (px ++ args).toArray w fun e w' => ∃ v Ψ', e = .returned v ∧ Below w.heap.size w w' ∧ (∀ a u, Ψ a = some u → Ψ' a = some u) ∧
      (∀ a u, Ψ' a = some u → Ψ a = some u ∨ (w.heap.size ≤ a.block ∧ a.spot = none ∧ w'.cell? a = some u)) ∧ v.oneCell' = true ∧
      BlkR P (fun k => k < w.heap.size) Ψ' [v] w' 0 (.grow sp.tid sp.e (sp.post x)) ∧ ∀ g, claims [v] 0 g (.grow sp.tid sp.e (sp.post x)) → ∀ a, a.block = g → Ψ' a = none

def SatG (P : Program) (f : FuncId) (sp : GSpec) : Prop := SatGp P f [] sp
/-- .. where the first argument is the nil slice. -/
def SatN (P : Program) (f : FuncId) (sp : GSpec) : Prop := SatGp P f [.slice none 0 0] sp

/-- What an iterator's contract says of its calls. -/
def SatI (P : Program) (f : FuncId) (isp : ISpec) : Prop :=
  ∀ (B : Nat → Prop) (w0 : World) (Y : Proto isp.ys) (x : dens isp.ps) (own : Nat → Prop) (Ψ : Pr) (w : World) (vs : List Value), isp.pre x → Y.items = isp.items x → Y.Stable → Y.Step P → Y.R [] own Ψ w → Glob B w0 own Ψ w → RelL Ψ [] (rps isp.ps x) vs →
    Calls P f (yldV Y.l :: vs).toArray w fun e w' => ∃ own' Ψ', e = .returned (.tuple #[]) ∧ Ext B Ψ Ψ' ∧ Glob B w0 own' Ψ' w' ∧ (Y.R (isp.items x) own' Ψ' w' ∨ Y.Rf own' Ψ' w')

/-- What a contract says of the calls of a function that sorts. -/
def SatS (P : Program) (f : FuncId) (g : SSpec) : Prop :=
  ∀ (B : Nat → Prop) (Ψ : Pr) (w : World) (xs : List g.e.den) (v : Value), BlkR P B Ψ [v] w 0 (.grow g.tid g.e xs) → (xs.length : Int) ≤ 4611686018427387903 →
    Calls P f #[v, fnV g.cmp] w fun e w' => e = .returned (.tuple #[]) ∧
      ((w' = w ∧ g.f xs = xs) ∨ ∃ gb, claims [v] 0 gb (.grow g.tid g.e xs) ∧ w.grownBy w' (some gb) ∧ BlkR P B Ψ [v] w' 0 (.grow g.tid g.e (g.f xs)))

/-- .. by what an own map says. -/
def capV (f : FuncId) (u : Value) : Value := .func (.func f) #[] #[u]
def SatM (P : Program) (f : FuncId) (g : MSpec) : Prop :=
  ∀ (B : Nat → Prop) (Ψ : Pr) (w : World) (xs : List Int) (mm : List (Int × Int)) (v : Value) (gc gm cl : Nat) (ec : TypeId) (ms : Array MapEntry), BlkR P B Ψ [v] w 0 (.grow g.tid (.int .i64) xs) → (xs.length : Int) ≤ 4611686018427387903 →
    w.heap[gc]? = some (.cells #[.map (some gm)] ec (0, 0)) → w.heap[gm]? = some (.map ms cl) → mapR Ψ (.int .i64) mm ms.toList → (∀ gb, claims [v] 0 gb (.grow g.tid (.int .i64) xs) → gb ≠ gc) →
    Calls P f #[v, capV g.cmp (.pointer (some ⟨gc, 0, none⟩))] w fun e w' => e = .returned (.tuple #[]) ∧
      ((w' = w ∧ g.f mm xs = xs) ∨ ∃ gb, claims [v] 0 gb (.grow g.tid (.int .i64) xs) ∧ w.grownBy w' (some gb) ∧ BlkR P B Ψ [v] w' 0 (.grow g.tid (.int .i64) (g.f mm xs)))

/-- What a contract says of the calls of a closure that works on its own blocks. -/
def SatH (P : Program) (f : FuncId) (hsp : HSpec) : Prop :=
  ∀ (B : Nat → Prop) (w0 : World) (Ψ : Pr) (β : List Value) (w : World) (x : dens hsp.ps) (y : dens (laTys hsp.las)) (args caps : List Value), shOk hsp x y = true → InvH P B w0 Ψ β (hsp.h y) w → RelL Ψ [] (outs hsp.ps x) args → RelL Ψ β hsp.cap caps → hsp.pre x y →
    Calls P f (args ++ caps).toArray w fun e w' => ∃ v Ψ', e = .returned v ∧ Ext B Ψ Ψ' ∧ InvH P B w0 Ψ' β (hsp.h (hsp.aft x y)) w' ∧ RelV Ψ' [] (outV hsp.rs (hsp.post x y)) v

end Go.AM
namespace Go.AM
set_option linter.unusedVariables false
open Go.RowKit
variable {C : Ctx}

/-! ### Reading -/
def PLe (Ψ Ψ' : Pr) : Prop := ∀ a v, Ψ a = some v → Ψ' a = some v
theorem PLe.refl (Ψ : Pr) : PLe Ψ Ψ := fun _ _ h => h
theorem PLe.trans {Ψ Ψ' Ψ'' : Pr} (h : PLe Ψ Ψ') (h' : PLe Ψ' Ψ'') : PLe Ψ Ψ'' := fun a v hv => h' a v (h a v hv)

theorem rdL_mono {α : Type} {R R' : α → List Value → Prop} (h : ∀ x vs, R x vs → R' x vs) : ∀ (xs : List α) (vs : List Value), rdL R xs vs → rdL R' xs vs
  | [], _, hv => hv
  | _ :: xs, _, ⟨c, vs', e, hc, hr⟩ => ⟨c, vs', e, h _ _ hc, rdL_mono h xs vs' hr⟩

theorem rowAt_mono {Ψ Ψ' : Pr} (h : PLe Ψ Ψ') {a : Option Addr} {vs : List Value} : rowAt Ψ a vs → rowAt Ψ' a vs
  | ⟨g, off, e, hc⟩ => ⟨g, off, e, fun j u hj => h _ _ (hc j u hj)⟩

theorem rdL_mono' {α : Type} {R R' : α → List Value → Prop} : ∀ (xs : List α) (vs : List Value), (∀ x ∈ xs, ∀ vs, R x vs → R' x vs) → rdL R xs vs → rdL R' xs vs
  | [], _, _, hv => hv
  | x :: xs, _, h, ⟨c, vs', e, hc, hr⟩ => ⟨c, vs', e, h x (by simp) _ hc, rdL_mono' xs vs' (fun y hy => h y (by simp [hy])) hr⟩

theorem rdRs_iff {Ψ : Pr} {α β : Type} {Ra : α → List Value → Prop} {Rb : β → List Value → Prop} : ∀ (ys : List (Rose (α × β))) (vs : List Value), rdRs Ψ Ra Rb ys vs ↔ rdL (rdR Ψ Ra Rb) ys vs
  | [], vs => by simp [rdRs, rdL]
  | y :: ys, vs => by simp only [rdRs, rdL, rdRs_iff ys]

/-- A tree: its node's cells, its parts. -/
theorem rdR_iff {Ψ : Pr} {α β : Type} {Ra : α → List Value → Prop} {Rb : β → List Value → Prop} (r : Rose (α × β)) (vs : List Value) :
    rdR Ψ Ra Rb r vs ↔ ∃ u s w, vs = u ++ s :: w ∧ Ra r.val.1 u ∧ Rb r.val.2 w ∧ ∃ a cap, s = .slice a r.subs.length cap ∧ r.subs.length ≤ cap ∧ cap ≤ maxLen ∧ (r.subs = [] ∨ ∃ cells, rdL (rdR Ψ Ra Rb) r.subs cells ∧ rowAt Ψ a cells) := by
  cases r with
  | node x ys => simp only [rdR, Rose.val, Rose.subs, rdRs_iff]

theorem reads_rose {Ψ : Pr} {a b : Ty} (r : Rose (a.den × b.den)) (vs : List Value) :
    reads Ψ (.rose a b) r vs ↔ ∃ u s w, vs = u ++ s :: w ∧ reads Ψ a r.val.1 u ∧ reads Ψ b r.val.2 w ∧ reads Ψ (.arr (.rose a b)) r.subs [s] := by
  constructor
  · intro h
    obtain ⟨u, s, w, h1, h2, h3, a', cap, h4, h5, h6, h7⟩ := (rdR_iff r vs).1 h
    exact ⟨u, s, w, h1, h2, h3, a', cap, by rw [h4], h5, h6, h7⟩
  · rintro ⟨u, s, w, h1, h2, h3, a', cap, h4, h5, h6, h7⟩
    exact (rdR_iff r vs).2 ⟨u, s, w, h1, h2, h3, a', cap, by simpa using h4, h5, h6, h7⟩

theorem rdR_mono {Ψ Ψ' : Pr} (h : ∀ a vs, rowAt Ψ a vs → rowAt Ψ' a vs) {α β : Type} {Ra Ra' : α → List Value → Prop} {Rb Rb' : β → List Value → Prop} (ha : ∀ x vs, Ra x vs → Ra' x vs) (hb : ∀ x vs, Rb x vs → Rb' x vs) :
    ∀ (r : Rose (α × β)) (vs : List Value), rdR Ψ Ra Rb r vs → rdR Ψ' Ra' Rb' r vs :=
  Rose.ind fun x l ih vs hr => by
    obtain ⟨u, s, w, h1, h2, h3, a', cap, h4, h5, h6, h7⟩ := (rdR_iff _ vs).1 hr
    exact (rdR_iff _ vs).2 ⟨u, s, w, h1, ha _ _ h2, hb _ _ h3, a', cap, h4, h5, h6, h7.imp id fun ⟨cells, hd, hrow⟩ => ⟨cells, rdL_mono' _ _ ih hd, h _ _ hrow⟩⟩

theorem reads_mono {Ψ Ψ' : Pr} (h : PLe Ψ Ψ') : ∀ (t : Ty) (x : t.den) (cs : List Value), reads Ψ t x cs → reads Ψ' t x cs
  | .int _, _, _, hr => hr
  | .bool, _, _, hr => hr
  | .fnc, _, _, hr => hr
  | .any, _, _, hr => hr
  | .str, _, _, hr => hr
  | .unit, _, _, hr => hr
  | .arr e, _, _, ⟨a, cap, e1, h1, h2, h3⟩ => ⟨a, cap, e1, h1, h2, h3.imp id fun ⟨cells, hd, hrow⟩ => ⟨cells, rdL_mono (reads_mono h e) _ _ hd, rowAt_mono h hrow⟩⟩
  | .vec _ e, _, _, ⟨h1, h2⟩ => ⟨h1, rdL_mono (reads_mono h e) _ _ h2⟩
  | .pair a b, _, _, ⟨u, v, e, h1, h2⟩ => ⟨u, v, e, reads_mono h a _ _ h1, reads_mono h b _ _ h2⟩
  | .rose a b, r, vs, hr => rdR_mono (fun _ _ => rowAt_mono h) (reads_mono h a) (reads_mono h b) r vs hr

theorem rdL_flat {α : Type} {R R' : α → List Value → Prop} (h : ∀ x vs, R x vs → R' x vs) (xs : List α) (vs : List Value) : rdL R xs vs → rdL R' xs vs := rdL_mono h xs vs

theorem reads_flat {Ψ Ψ' : Pr} : ∀ (t : Ty) (x : t.den) (cs : List Value), t.flat = true → reads Ψ t x cs → reads Ψ' t x cs
  | .int _, _, _, _, hr => hr
  | .bool, _, _, _, hr => hr
  | .fnc, _, _, _, hr => hr
  | .any, _, _, _, hr => hr
  | .str, _, _, _, hr => hr
  | .unit, _, _, _, hr => hr
  | .arr e, _, _, hf, _ => by simp [Ty.flat] at hf
  | .vec _ e, _, _, hf, ⟨h1, h2⟩ => ⟨h1, rdL_mono (fun x vs => reads_flat e x vs (by simpa [Ty.flat] using hf)) _ _ h2⟩
  | .pair a b, _, _, hf, ⟨u, v, e, h1, h2⟩ => by
    simp only [Ty.flat, Bool.and_eq_true] at hf
    exact ⟨u, v, e, reads_flat a _ _ hf.1 h1, reads_flat b _ _ hf.2 h2⟩
  | .rose _ _, _, _, hf, _ => by simp [Ty.flat] at hf

theorem rdL_len {α : Type} {R : α → List Value → Prop} {n : Nat} (h : ∀ x vs, R x vs → vs.length = n) : ∀ (xs : List α) (vs : List Value), rdL R xs vs → vs.length = xs.length * n
  | [], _, hv => by simp [rdL] at hv; simp [hv]
  | _ :: xs, _, ⟨c, vs', e, hc, hr⟩ => by
    rw [e, List.length_append, h _ _ hc, rdL_len h xs vs' hr, List.length_cons, Nat.succ_mul, Nat.add_comm]

theorem reads_len {Ψ : Pr} : ∀ (t : Ty) (x : t.den) (cs : List Value), reads Ψ t x cs → cs.length = t.cells
  | .int _, _, _, hr => by simp [reads] at hr; simp [hr.1, Ty.cells]
  | .bool, _, _, hr => by simp [reads] at hr; simp [hr, Ty.cells]
  | .fnc, _, _, hr => by simp [reads] at hr; simp [hr, Ty.cells]
  | .any, _, _, ⟨_, hr, _⟩ => by simp [hr, Ty.cells]
  | .str, _, _, hr => by simp [reads] at hr; simp [hr.1, Ty.cells]
  | .unit, _, _, hr => by simp [reads] at hr; simp [hr, Ty.cells]
  | .arr e, _, _, ⟨a, cap, e1, _⟩ => by simp [e1, Ty.cells]
  | .vec n e, _, _, ⟨h1, h2⟩ => by rw [rdL_len (reads_len e) _ _ h2, h1, Ty.cells]
  | .pair a b, _, _, ⟨u, v, e, h1, h2⟩ => by rw [e, List.length_append, reads_len a _ _ h1, reads_len b _ _ h2, Ty.cells]
  | .rose a b, r, vs, hr => by
    obtain ⟨u, s, w, e, h1, h2, _⟩ := (rdR_iff r vs).1 hr
    rw [e, List.length_append, List.length_cons, reads_len a _ _ h1, reads_len b _ _ h2, Ty.cells]
    omega

theorem rdL_one {α : Type} {R : α → List Value → Prop} (h : ∀ x vs, R x vs → ∀ u ∈ vs, u.oneCell' = true) : ∀ (xs : List α) (vs : List Value), rdL R xs vs → ∀ u ∈ vs, u.oneCell' = true
  | [], _, hv => by simp [rdL] at hv; simp [hv]
  | _ :: xs, _, ⟨c, vs', e, hc, hr⟩ => by
    subst e
    intro u hu
    rcases List.mem_append.1 hu with hu | hu
    · exact h _ _ hc u hu
    · exact rdL_one h xs vs' hr u hu

theorem reads_one {Ψ : Pr} : ∀ (t : Ty) (x : t.den) (cs : List Value), reads Ψ t x cs → ∀ u ∈ cs, u.oneCell' = true
  | .int _, _, _, hr => by simp [reads] at hr; simp [hr.1, Value.oneCell']
  | .bool, _, _, hr => by simp [reads] at hr; simp [hr, Value.oneCell']
  | .fnc, _, _, hr => by simp [reads] at hr; simp [hr, Value.oneCell']
  | .any, _, _, ⟨_, hr, h1⟩ => by simp [hr, h1]
  | .str, _, _, hr => by simp [reads] at hr; simp [hr.1, Value.oneCell']
  | .unit, _, _, hr => by simp [reads] at hr; simp [hr]
  | .arr e, _, _, ⟨a, cap, e1, _⟩ => by simp [e1, Value.oneCell']
  | .vec n e, _, _, ⟨h1, h2⟩ => rdL_one (reads_one e) _ _ h2
  | .pair a b, _, _, ⟨u, v, e, h1, h2⟩ => by
    subst e
    intro w hw
    rcases List.mem_append.1 hw with hw | hw
    · exact reads_one a _ _ h1 w hw
    · exact reads_one b _ _ h2 w hw
  | .rose a b, r, vs, hr => by
    obtain ⟨u, s, w, e, h1, h2, a', cap, h3, _⟩ := (rdR_iff r vs).1 hr
    subst e
    intro x hx
    rcases List.mem_append.1 hx with hx | hx
    · exact reads_one a _ _ h1 x hx
    · rcases List.mem_cons.1 hx with hx | hx
      · rw [hx, h3]; rfl
      · exact reads_one b _ _ h2 x hx

/-- One element of a row. -/
theorem rdL_get {α : Type} {R : α → List Value → Prop} {n : Nat} (h : ∀ x vs, R x vs → vs.length = n) : ∀ (xs : List α) (vs : List Value), rdL R xs vs →
    ∀ (i : Nat) (x : α), xs[i]? = some x → ∃ c, R x c ∧ ∀ j u, c[j]? = some u → vs[i * n + j]? = some u
  | [], _, _, i, x, hx => by simp at hx
  | y :: xs, _, ⟨c, vs', e, hc, hr⟩, 0, x, hx => by
    simp at hx
    subst hx
    subst e
    exact ⟨c, hc, fun j u hj => by
      have hlt : j < c.length := by
        rcases Nat.lt_or_ge j c.length with h' | h'
        · exact h'
        · rw [List.getElem?_eq_none h'] at hj; cases hj
      simp [List.getElem?_append_left hlt, hj]⟩
  | y :: xs, _, ⟨c, vs', e, hc, hr⟩, i + 1, x, hx => by
    obtain ⟨d, hd, hget⟩ := rdL_get h xs vs' hr i x (by simpa using hx)
    subst e
    refine ⟨d, hd, fun j u hj => ?_⟩
    have hl := h _ _ hc
    rw [List.getElem?_append_right (by rw [hl, Nat.succ_mul]; omega)]
    rw [← hget j u hj]
    congr 1
    rw [hl, Nat.succ_mul]
    omega

theorem drop_len_add {α : Type} (c vs : List α) (m : Nat) : (c ++ vs).drop (c.length + m) = vs.drop m := by
  rw [← List.drop_drop]; simp
theorem take_len_add {α : Type} (c vs : List α) (m : Nat) : (c ++ vs).take (c.length + m) = c ++ vs.take m := by
  simp [List.take_append, List.take_of_length_le]

theorem rdL_append {α : Type} {R : α → List Value → Prop} : ∀ (xs ys : List α) (us vs : List Value), rdL R xs us → rdL R ys vs → rdL R (xs ++ ys) (us ++ vs)
  | [], _, _, _, hu, hv => by simp only [rdL] at hu; subst hu; simpa using hv
  | _ :: xs, ys, _, vs, ⟨c, us', e, hc, hr⟩, hv => ⟨c, us' ++ vs, by rw [e, List.append_assoc], hc, rdL_append xs ys us' vs hr hv⟩

/-- One element of a row is another one. -/
theorem rdL_set {α : Type} {R : α → List Value → Prop} {n : Nat} (h : ∀ x vs, R x vs → vs.length = n) (y : α) (d : List Value) (hd : R y d) : ∀ (xs : List α) (vs : List Value), rdL R xs vs →
    ∀ (i : Nat), i < xs.length → rdL R (xs.set i y) (vs.take (i * n) ++ d ++ vs.drop (i * n + n))
  | [], _, _, i, hi => by simp at hi
  | x :: xs, _, ⟨c, vs', e, hc, hr⟩, 0, _ => by
    subst e
    have hl := h _ _ hc
    refine ⟨d, vs', ?_, hd, hr⟩
    simp [← hl]
  | x :: xs, _, ⟨c, vs', e, hc, hr⟩, i + 1, hi => by
    subst e
    have hl := h _ _ hc
    refine ⟨c, vs'.take (i * n) ++ d ++ vs'.drop (i * n + n), ?_, hc, rdL_set h y d hd xs vs' hr i (by simpa using hi)⟩
    have e1 : (i + 1) * n = c.length + i * n := by rw [hl, Nat.succ_mul, Nat.add_comm]
    rw [e1, take_len_add, Nat.add_assoc, drop_len_add]
    simp [List.append_assoc]

theorem rdL_replicate {α : Type} {R : α → List Value → Prop} (x : α) (c : List Value) (hc : R x c) : ∀ n, rdL R (List.replicate n x) ((List.replicate n c).flatten)
  | 0 => by simp [rdL]
  | n + 1 => ⟨c, (List.replicate n c).flatten, by simp [List.replicate_succ], hc, rdL_replicate x c hc n⟩

theorem rdL_drop {α : Type} {R : α → List Value → Prop} {n : Nat} (h : ∀ x vs, R x vs → vs.length = n) : ∀ (xs : List α) (vs : List Value) (i : Nat), rdL R xs vs → rdL R (xs.drop i) (vs.drop (i * n))
  | xs, vs, 0, hr => by simpa using hr
  | [], vs, i + 1, hr => by simp only [rdL] at hr; subst hr; simp [rdL]
  | x :: xs, _, i + 1, ⟨c, vs', e, hc, hr⟩ => by
    subst e
    have hl := h _ _ hc
    have e1 : (i + 1) * n = c.length + i * n := by rw [hl, Nat.succ_mul, Nat.add_comm]
    rw [e1, drop_len_add]
    simpa using rdL_drop h xs vs' i hr

theorem rdL_take {α : Type} {R : α → List Value → Prop} {n : Nat} (h : ∀ x vs, R x vs → vs.length = n) : ∀ (xs : List α) (vs : List Value) (i : Nat), rdL R xs vs → rdL R (xs.take i) (vs.take (i * n))
  | xs, vs, 0, _ => by simp [rdL]
  | [], vs, i + 1, hr => by simp only [rdL] at hr; subst hr; simp [rdL]
  | x :: xs, _, i + 1, ⟨c, vs', e, hc, hr⟩ => by
    subst e
    have hl := h _ _ hc
    have e1 : (i + 1) * n = c.length + i * n := by rw [hl, Nat.succ_mul, Nat.add_comm]
    rw [e1, take_len_add]
    exact ⟨c, vs'.take (i * n), rfl, hc, rdL_take h xs vs' i hr⟩

/-! ### The relation of values -/
mutual
theorem RelV_mono {Ψ Ψ' : Pr} {β β' : List Value} (h : PLe Ψ Ψ') (hb : ∀ (k : Nat) (v : Value), β[k]? = some v → β'[k]? = some v) : ∀ (av : AV) (v : Value), RelV Ψ β av v → RelV Ψ' β' av v
  | .junk, _, _ => trivial
  | .und, _, hr => hr
  | .tt, _, hr => hr
  | .ff, _, hr => hr
  | .d t x, _, ⟨cs, hc, e⟩ => ⟨cs, reads_mono h t x cs hc, e⟩
  | .fs e xs, _, ⟨a, ea, cs, hc, e'⟩ => ⟨a, ea, cs, reads_mono h (.arr e) xs cs hc, e'⟩
  | .nils, _, hr => hr
  | .agg cs, _, ⟨vs, e, hl, h1⟩ => ⟨vs, e, RelL_mono h hb cs vs hl, h1⟩
  | .tup cs, _, ⟨vs, e, hl⟩ => ⟨vs, e, RelL_mono h hb cs vs hl⟩
  | .fn _ cs, _, ⟨vs, e, hl⟩ => ⟨vs, e, RelL_mono h hb cs vs hl⟩
  | .bnd _ cs, _, ⟨vs, e, hl⟩ => ⟨vs, e, RelL_mono h hb cs vs hl⟩
  | .sv _ _ _ _, _, ⟨g, n, c, hg, r⟩ => ⟨g, n, c, hb _ _ hg, r⟩
  | .nilf, _, hr => hr
  | .nilp, _, hr => hr
  | .own _ _, _, ⟨g, hg, e⟩ => ⟨g, hb _ _ hg, e⟩
  | .sl _, _, hr => ⟨hb _ _ hr.1, hr.2⟩
  | .slp _ _ _, _, ⟨g, n, c, hg, r⟩ => ⟨g, n, c, hb _ _ hg, r⟩
  | .rp t x, _, ⟨g, off, cs, e, hc, hp⟩ => ⟨g, off, cs, e, reads_mono h t x cs hc, fun j u hj => h _ _ (hp j u hj)⟩
  | .yld _, _, ⟨l, hg, e⟩ => ⟨l, hb _ _ hg, e⟩
theorem RelL_mono {Ψ Ψ' : Pr} {β β' : List Value} (h : PLe Ψ Ψ') (hb : ∀ (k : Nat) (v : Value), β[k]? = some v → β'[k]? = some v) : ∀ (cs : List AV) (vs : List Value), RelL Ψ β cs vs → RelL Ψ' β' cs vs
  | [], _, hr => hr
  | c :: cs, _, ⟨v, vs', e, hv, hl⟩ => ⟨v, vs', e, RelV_mono h hb c v hv, RelL_mono h hb cs vs' hl⟩
end

mutual
/-- An own slice's name is replaced. -/
theorem sub_rel {Ψ Ψ' : Pr} {β β' : List Value} (k : Nat) (r : AV) (h : PLe Ψ Ψ') (hr : ∀ v : Value, β[k]? = some v → RelV Ψ' β' r v) (hb : ∀ (j : Nat) (v : Value), j ≠ k → β[j]? = some v → β'[j]? = some v)
    (hp : ∀ g : Nat, β[k]? = some (.pointer (some ⟨g, 0, none⟩)) → β'[k]? = some (.pointer (some ⟨g, 0, none⟩))) (hy : ∀ l : Nat, β[k]? = some (yldV l) → β'[k]? = some (yldV l)) :
    ∀ (av : AV) (v : Value), RelV Ψ β av v → RelV Ψ' β' (sub k r av) v
  | .junk, _, _ => trivial
  | .und, _, hv => hv
  | .tt, _, hv => hv
  | .ff, _, hv => hv
  | .d t x, _, ⟨cs, hc, e⟩ => ⟨cs, reads_mono h t x cs hc, e⟩
  | .fs e xs, _, ⟨a, ea, cs, hc, e'⟩ => ⟨a, ea, cs, reads_mono h (.arr e) xs cs hc, e'⟩
  | .nils, _, hv => hv
  | .agg cs, _, ⟨vs, e, hl, h1⟩ => ⟨vs, e, subL_rel k r h hr hb hp hy cs vs hl, h1⟩
  | .tup cs, _, ⟨vs, e, hl⟩ => ⟨vs, e, subL_rel k r h hr hb hp hy cs vs hl⟩
  | .fn _ cs, _, ⟨vs, e, hl⟩ => ⟨vs, e, subL_rel k r h hr hb hp hy cs vs hl⟩
  | .bnd _ cs, _, ⟨vs, e, hl⟩ => ⟨vs, e, subL_rel k r h hr hb hp hy cs vs hl⟩
  | .sv j sz a b, v, ⟨g, n, c, hg, rest⟩ => by
    simp only [sub]
    by_cases hj : j = k
    · subst hj; simp only [Nat.beq_refl, if_true]; trivial
    · rw [if_neg (by simpa [Nat.beq_eq] using hj)]; exact ⟨g, n, c, hb j _ hj hg, rest⟩
  | .nilf, _, hv => hv
  | .nilp, _, hv => hv
  | .own j _, _, ⟨g, hg, e⟩ => ⟨g, (by
      by_cases hj : j = k
      · subst hj; exact hp g hg
      · exact hb j _ hj hg), e⟩
  | .sl j, v, hv => by
    simp only [sub]
    by_cases hj : j = k
    · subst hj; simp only [Nat.beq_refl, if_true]; exact hr v hv.1
    · rw [if_neg (by simpa [Nat.beq_eq] using hj)]; exact ⟨hb j v hj hv.1, hv.2⟩
  | .slp j sz i, v, ⟨g, n, c, hg, rest⟩ => by
    simp only [sub]
    by_cases hj : j = k
    · subst hj; simp only [Nat.beq_refl, if_true]; trivial
    · rw [if_neg (by simpa [Nat.beq_eq] using hj)]; exact ⟨g, n, c, hb j _ hj hg, rest⟩
  | .rp t x, _, ⟨g, off, cs, e, hc, hq⟩ => ⟨g, off, cs, e, reads_mono h t x cs hc, fun j u hj => h _ _ (hq j u hj)⟩
  | .yld j, _, ⟨l, hg, e⟩ => ⟨l, (by
      by_cases hj : j = k
      · subst hj; exact hy l hg
      · exact hb j _ hj hg), e⟩
theorem subL_rel {Ψ Ψ' : Pr} {β β' : List Value} (k : Nat) (r : AV) (h : PLe Ψ Ψ') (hr : ∀ v : Value, β[k]? = some v → RelV Ψ' β' r v) (hb : ∀ (j : Nat) (v : Value), j ≠ k → β[j]? = some v → β'[j]? = some v)
    (hp : ∀ g : Nat, β[k]? = some (.pointer (some ⟨g, 0, none⟩)) → β'[k]? = some (.pointer (some ⟨g, 0, none⟩))) (hy : ∀ l : Nat, β[k]? = some (yldV l) → β'[k]? = some (yldV l)) :
    ∀ (cs : List AV) (vs : List Value), RelL Ψ β cs vs → RelL Ψ' β' (subL k r cs) vs
  | [], _, hl => hl
  | c :: cs, _, ⟨v, vs', e, hv, hl⟩ => ⟨v, vs', e, sub_rel k r h hr hb hp hy c v hv, subL_rel k r h hr hb hp hy cs vs' hl⟩
end

theorem RelL_len {Ψ : Pr} {β : List Value} : ∀ (cs : List AV) (vs : List Value), RelL Ψ β cs vs → vs.length = cs.length
  | [], _, hr => by simp only [RelL] at hr; simp [hr]
  | _ :: cs, _, ⟨v, vs', e, _, hl⟩ => by simp [e, RelL_len cs vs' hl]

theorem RelL_get {Ψ : Pr} {β : List Value} : ∀ (cs : List AV) (vs : List Value), RelL Ψ β cs vs → ∀ i, RelV Ψ β (fget cs i) (vs.getD i undef)
  | [], _, _, _ => trivial
  | c :: cs, _, ⟨v, vs', e, hv, _⟩, 0 => by subst e; simpa [fget] using hv
  | c :: cs, _, ⟨v, vs', e, _, hl⟩, i + 1 => by subst e; simpa [fget] using RelL_get cs vs' hl i

theorem RelL_get? {Ψ : Pr} {β : List Value} (cs : List AV) (vs : List Value) (h : RelL Ψ β cs vs) (i : Nat) (hi : i < cs.length) : ∃ v, vs[i]? = some v ∧ RelV Ψ β (fget cs i) v := by
  have hl := RelL_len cs vs h
  refine ⟨vs[i], List.getElem?_eq_getElem (by omega), ?_⟩
  have := RelL_get cs vs h i
  rwa [List.getD_eq_getElem?_getD, List.getElem?_eq_getElem (by omega), Option.getD_some] at this

theorem RelL_set {Ψ : Pr} {β : List Value} {av : AV} {u : Value} (hu : RelV Ψ β av u) : ∀ (cs : List AV) (vs : List Value) (i : Nat), RelL Ψ β cs vs → RelL Ψ β (fset cs i av) (vs.set i u)
  | [], _, _, hl => by simp only [RelL] at hl; subst hl; simp [fset, RelL]
  | _ :: cs, _, 0, ⟨v, vs', e, _, hl⟩ => by subst e; exact ⟨u, vs', by simp, hu, hl⟩
  | _ :: cs, _, i + 1, ⟨v, vs', e, hv, hl⟩ => by subst e; exact ⟨v, vs'.set i u, by simp, hv, RelL_set hu cs vs' i hl⟩

theorem RelL_append {Ψ : Pr} {β : List Value} : ∀ (cs ds : List AV) (vs us : List Value), RelL Ψ β cs vs → RelL Ψ β ds us → RelL Ψ β (cs ++ ds) (vs ++ us)
  | [], _, _, _, h, h' => by simp only [RelL] at h; subst h; simpa using h'
  | _ :: cs, ds, _, us, ⟨v, vs', e, hv, hl⟩, h' => ⟨v, vs' ++ us, by simp [e], hv, RelL_append cs ds vs' us hl h'⟩

theorem takeN_eq (n : Nat) (l : List AV) : takeN n l = l.take n := by
  induction n generalizing l with
  | zero => simp [takeN]
  | succ n ih => cases l <;> simp [takeN, ih]
theorem dropN_eq (n : Nat) (l : List AV) : dropN n l = l.drop n := by
  induction n generalizing l with
  | zero => simp [dropN]
  | succ n ih => cases l <;> simp [dropN, ih]
theorem listLen_eq (l : List AV) : listLen l = l.length := by induction l <;> simp [listLen, *]
theorem hlen_eq (l : List Blk) : hlen l = l.length := by induction l <;> simp [hlen, *]

theorem RelL_take {Ψ : Pr} {β : List Value} : ∀ (n : Nat) (cs : List AV) (vs : List Value), RelL Ψ β cs vs → RelL Ψ β (cs.take n) (vs.take n)
  | 0, _, _, _ => by simp [RelL]
  | n + 1, [], _, h => by simp only [RelL] at h; subst h; simp [RelL]
  | n + 1, _ :: cs, _, ⟨v, vs', e, hv, hl⟩ => by subst e; exact ⟨v, vs'.take n, by simp, hv, RelL_take n cs vs' hl⟩
theorem RelL_drop {Ψ : Pr} {β : List Value} : ∀ (n : Nat) (cs : List AV) (vs : List Value), RelL Ψ β cs vs → RelL Ψ β (cs.drop n) (vs.drop n)
  | 0, _, _, h => by simpa using h
  | n + 1, [], _, h => by simp only [RelL] at h; subst h; simp [RelL]
  | n + 1, _ :: cs, _, ⟨v, vs', e, hv, hl⟩ => by subst e; simpa using RelL_drop n cs vs' hl

theorem hget_some {h : List Blk} {k : Nat} {b : Blk} (e : hget h k = b) (hb : b ≠ .gone) : h[k]? = some b := by
  induction h generalizing k with
  | nil => simp [hget] at e; exact absurd e.symm hb
  | cons a l ih => cases k with
    | zero => simp [hget] at e; simp [e]
    | succ k => simp [hget] at e; simpa using ih e

theorem hset_eq (h : List Blk) (k : Nat) (b : Blk) : hset h k b = h.set k b := by
  induction h generalizing k with
  | nil => simp [hset]
  | cons a l ih => cases k <;> simp [hset, ih]

theorem fset_eq (h : List AV) (k : Nat) (b : AV) : fset h k b = h.set k b := by
  induction h generalizing k with
  | nil => simp [fset]
  | cons a l ih => cases k <;> simp [fset, ih]

/-! ### The world grows -/
/-- Blocks are laid and promises are made of what is new. -/
theorem Pm_of_block {w w' : World} {a : Addr} {v : Value} (h : w'.heap[a.block]? = w.heap[a.block]?) (hp : Pm w a v) : Pm w' a v := by
  unfold Pm at *
  rw [h, World.cell?_of_block h]
  exact hp
theorem Pm_lt {w : World} {a : Addr} {v : Value} (hp : Pm w a v) : a.block < w.heap.size := by
  have lt : ∀ {o : Obj}, w.heap[a.block]? = some o → a.block < w.heap.size := fun h => by
    rcases Nat.lt_or_ge a.block w.heap.size with h' | h'
    · exact h'
    · rw [Array.getElem?_eq_none h'] at h; cases h
  unfold Pm at hp
  split at hp
  · exact World.block_lt_of_cell? w a hp
  · exact lt hp.2
  · obtain ⟨r, hr⟩ := hp; exact lt hr
  · obtain ⟨r, hr, _⟩ := hp; exact lt hr
  · obtain ⟨ms, cl, hr, _⟩ := hp; exact lt hr
  · exact hp.elim
theorem Pm_plain {w : World} {a : Addr} {v : Value} (hs : a.spot = none) (hp : Pm w a v) : w.cell? a = some v := by
  unfold Pm at hp
  rw [hs] at hp
  exact hp
theorem Pm_mk {w : World} {a : Addr} {v : Value} (hs : a.spot = none) (hp : w.cell? a = some v) : Pm w a v := by
  unfold Pm
  rw [hs]
  exact hp
/-- What is promised otherwise lies in no row and no map. -/
theorem Pm_spot {w : World} {a : Addr} {v : Value} (hs : ¬ pl a) (hp : Pm w a v) : ∃ r, w.heap[a.block]? = some (.loop r) := by
  unfold Pm at hp
  split at hp
  · rename_i h; exact absurd (.inl h) hs
  · rename_i h; exact absurd (.inr (.inr h)) hs
  · exact hp
  · obtain ⟨r, hr, _⟩ := hp; exact ⟨r, hr⟩
  · rename_i h; exact absurd (.inr (.inl h)) hs
  · exact hp.elim

theorem rv_le {Ψ Ψ' : Pr} (h : PLe Ψ Ψ') {t : Ty} {x : t.den} {v : Value} : rv Ψ t x v → rv Ψ' t x v
  | ⟨cs, hc, e⟩ => ⟨cs, reads_mono h t x cs hc, e⟩
theorem mapR_mono {Ψ Ψ' : Pr} (h : PLe Ψ Ψ') {e : Ty} : ∀ {m : List (Int × e.den)} {es : List MapEntry}, mapR Ψ e m es → mapR Ψ' e m es
  | [], _, hr => hr
  | _ :: _, _, ⟨x, es', h1, h2, h3, h4, h5⟩ => ⟨x, es', h1, h2, h3, rv_le h h4, mapR_mono h h5⟩

structure Step (Ψ : Pr) (w : World) (Ψ' : Pr) (w' : World) : Prop where
  below : Below w.heap.size w w'
  le : PLe Ψ Ψ'
  new : ∀ a v, Ψ' a = some v → Ψ a = some v ∨ (w.heap.size ≤ a.block ∧ a.spot = none ∧ w'.cell? a = some v)

theorem Step.refl (Ψ : Pr) (w : World) : Step Ψ w Ψ w := ⟨Below.refl _ _, PLe.refl _, fun _ _ h => .inl h⟩

theorem heap_lt {w : World} {g : Nat} {o : Obj} (h : w.heap[g]? = some o) : g < w.heap.size := by
  rcases Nat.lt_or_ge g w.heap.size with h' | h'
  · exact h'
  · rw [Array.getElem?_eq_none h'] at h; cases h

theorem PLe.m {Ψ Ψ' : Pr} (h : PLe Ψ Ψ') : PLm Ψ Ψ' := fun a v _ hv => h a v hv
theorem Mine.keep {B own : Nat → Prop} {w w' : World} (h : Mine B own w) (hz : w.heap.size ≤ w'.heap.size) : Mine B own w' :=
  fun g hg => ⟨(h g hg).1, Nat.lt_of_lt_of_le (h g hg).2 hz⟩
/-- One's listener, while its own blocks stand. -/
theorem BlkR_log {P : Program} {B : Nat → Prop} {Ψ Ψ' : Pr} {β β' : List Value} {w w' : World} {k k' : Nat} {ys : List Ty} {Y : Proto ys} {own : Nat → Prop} {xs : List (tyOf ys).den} (h : BlkR P B Ψ β w k (.log ys Y own xs)) (he : ∀ u, β[k]? = some u → β'[k']? = some u) (hl : PLm Ψ Ψ') (hz : w.heap.size ≤ w'.heap.size) (hb : ∀ g, own g → w'.heap[g]? = w.heap[g]?) : BlkR P B Ψ' β' w' k' (.log ys Y own xs) :=
  ⟨he _ h.1, h.2.2.2.1.1 _ _ _ _ _ _ h.2.1 hl hb, h.2.2.1.keep hz, h.2.2.2.1, h.2.2.2.2⟩
theorem BlkR_lof {P : Program} {B : Nat → Prop} {Ψ Ψ' : Pr} {β β' : List Value} {w w' : World} {k k' : Nat} {ys : List Ty} {Y : Proto ys} {own : Nat → Prop} (h : BlkR P B Ψ β w k (.lof ys Y own)) (he : ∀ u, β[k]? = some u → β'[k']? = some u) (hl : PLm Ψ Ψ') (hz : w.heap.size ≤ w'.heap.size) (hb : ∀ g, own g → w'.heap[g]? = w.heap[g]?) : BlkR P B Ψ' β' w' k' (.lof ys Y own) :=
  ⟨he _ h.1, h.2.2.2.2 _ _ _ _ _ h.2.1 hl hb, h.2.2.1.keep hz, h.2.2.2⟩

theorem BlkR_step {B : Nat → Prop} {Ψ Ψ' : Pr} {β : List Value} {w w' : World} (hs : Step Ψ w Ψ' w') {k : Nat} {b : Blk} (h : BlkR C.P B Ψ β w k b) : BlkR C.P B Ψ' β w' k b := by
  cases b with
  | gone => trivial
  | log ys Y own xs => exact BlkR_log h (fun _ h => h) hs.le.m hs.below.size fun g hg => hs.below.block g (h.2.2.1 g hg).2
  | lof ys Y own => exact BlkR_lof h (fun _ h => h) hs.le.m hs.below.size fun g hg => hs.below.block g (h.2.2.1 g hg).2
  | cells cs =>
    obtain ⟨g, c, e, h1, h2, h3, h4, h5⟩ := h
    exact ⟨g, c, e, h1, (hs.below.block g (heap_lt h2)).trans h2, h3, RelL_mono hs.le (fun _ _ h => h) _ _ h4, h5⟩
  | grow tid e xs =>
    refine h.imp id ?_
    rintro ⟨g, cap, cur, h1, h2, h3, h4, h5, h6, h7, h8⟩
    exact ⟨g, cap, cur, h1, h2, h3, (hs.below.block g (heap_lt h4)).trans h4, h5, h6, h7, rdL_mono (reads_mono hs.le e) _ _ h8⟩
  | kmap es =>
    obtain ⟨g, ms, cl, h1, h2, h3, h4⟩ := h
    exact ⟨g, ms, cl, h1, (hs.below.block g (heap_lt h2)).trans h2, h3, h4⟩
  | dmap e m =>
    obtain ⟨g, ms, cl, h1, h2, h3, h4, h5⟩ := h
    exact ⟨g, ms, cl, h1, (hs.below.block g (heap_lt h2)).trans h2, h3, mapR_mono hs.le h4, h5⟩
  | diter e last left =>
    obtain ⟨g, gm, ms, cl, seen, h1, h2, h3, h4, h5, h6⟩ := h
    exact ⟨g, gm, ms, cl, seen, h1, (hs.below.block g (heap_lt h2)).trans h2, h3, hs.le _ _ h4, mapR_mono hs.le h5, h6.1, h6.2.1, h6.2.2.imp id fun ⟨p, x, s', a1, a2, a3, a4, a5, a6⟩ => ⟨p, x, s', a1, a2, a3, a4, a5, rv_le hs.le a6⟩⟩
  | loop f p ph ts =>
    obtain ⟨l, r, h1, h2, h3, h4, h5, h6, h7, h8⟩ := h
    exact ⟨l, r, h1, (hs.below.block l (heap_lt h2)).trans h2, h3, h4, RelL_mono hs.le (fun _ _ h => h) _ _ h5, hs.le _ _ h6, fun i v hv => hs.le _ _ (h7 i v hv), h8⟩

theorem claims_lt {B : Nat → Prop} {Ψ : Pr} {β : List Value} {w : World} {k g : Nat} {b : Blk} (h : BlkR C.P B Ψ β w k b) (hc : claims β k g b) : ¬ B g ∧ g < w.heap.size := by
  cases b with
  | gone => exact hc.elim
  | log ys Y own xs => exact h.2.2.1 g hc
  | lof ys Y own => exact h.2.2.1 g hc
  | cells cs =>
    obtain ⟨g', c, e, h1, h2, h3, _⟩ := h
    simp only [claims] at hc
    rw [h1] at hc
    simp at hc
    subst hc
    exact ⟨h3, heap_lt h2⟩
  | grow tid e xs =>
    obtain ⟨n, cap', hz, hc⟩ := hc
    rcases h with ⟨ad, h1, _⟩ | ⟨g', cap, cur, h1, h2, h3, h4, _⟩
    · rw [h1] at hc
      simp at hc
      exact absurd hc.2.2.symm hz
    · rw [h1] at hc
      simp at hc
      obtain ⟨rfl, _, _⟩ := hc
      exact ⟨h3, heap_lt h4⟩
  | kmap es =>
    obtain ⟨g', ms, cl, h1, h2, h3, _⟩ := h
    simp only [claims] at hc
    rw [h1] at hc
    simp at hc
    subst hc
    exact ⟨h3, heap_lt h2⟩
  | dmap e m =>
    obtain ⟨g', ms, cl, h1, h2, h3, _⟩ := h
    simp only [claims] at hc
    rw [h1] at hc
    simp at hc
    subst hc
    exact ⟨h3, heap_lt h2⟩
  | diter e last left =>
    obtain ⟨g', gm, ms, cl, seen, h1, h2, h3, _⟩ := h
    simp only [claims] at hc
    rw [h1] at hc
    simp at hc
    subst hc
    exact ⟨h3, heap_lt h2⟩
  | loop f p ph ts =>
    obtain ⟨l, r, h1, h2, h3, _⟩ := h
    simp only [claims, yldV] at hc h1
    rw [h1] at hc
    simp at hc
    subst hc
    exact ⟨h3, heap_lt h2⟩

theorem grow_not_hole {P : Program} {B : Nat → Prop} {Ψ : Pr} {β : List Value} {w : World} {k : Nat} {tid : TypeId} {e : Ty} {xs : List e.den} {u : Value} (h : BlkR P B Ψ β w k (.grow tid e xs)) (hu : β[k]? = some u) : u ≠ hole := by
  intro e0
  subst e0
  rcases h with ⟨ad, h1, _⟩ | ⟨g, cap, cur, h1, _⟩
  · rw [hu] at h1; simp [hole] at h1
  · rw [hu] at h1; simp [hole] at h1

def Blk.isLoop : Blk → Bool
  | .loop _ _ _ _ => true
  | .log _ _ _ _ => true
  | .lof _ _ _ => true
  | _ => false

/-- The block that is claimed. -/
theorem claims_obj {B : Nat → Prop} {Ψ : Pr} {β : List Value} {w : World} {k g : Nat} {b : Blk} (h : BlkR C.P B Ψ β w k b) (hc : claims β k g b) :
    (∃ c e s, w.heap[g]? = some (.cells c e s)) ∨ (∃ ms cl, w.heap[g]? = some (.map ms cl)) ∨ (∃ m s seen c, w.heap[g]? = some (.mapIter m s seen c)) ∨ b.isLoop = true := by
  cases b with
  | gone => exact hc.elim
  | log ys Y own xs => exact .inr (.inr (.inr rfl))
  | lof ys Y own => exact .inr (.inr (.inr rfl))
  | cells cs =>
    obtain ⟨g', c, e, h1, h2, h3, _⟩ := h
    simp only [claims] at hc
    rw [h1] at hc
    simp at hc
    subst hc
    exact .inl ⟨_, _, _, h2⟩
  | grow tid e xs =>
    obtain ⟨n, cap', hz, hc⟩ := hc
    rcases h with ⟨ad, h1, _⟩ | ⟨g', cap, cur, h1, h2, h3, h4, _⟩
    · rw [h1] at hc
      simp at hc
      exact absurd hc.2.2.symm hz
    · rw [h1] at hc
      simp at hc
      obtain ⟨rfl, _, _⟩ := hc
      exact .inl ⟨_, _, _, h4⟩
  | kmap es =>
    obtain ⟨g', ms, cl, h1, h2, h3, _⟩ := h
    simp only [claims] at hc
    rw [h1] at hc
    simp at hc
    subst hc
    exact .inr (.inl ⟨_, _, h2⟩)
  | dmap e m =>
    obtain ⟨g', ms, cl, h1, h2, h3, _⟩ := h
    simp only [claims] at hc
    rw [h1] at hc
    simp at hc
    subst hc
    exact .inr (.inl ⟨_, _, h2⟩)
  | diter e last left =>
    obtain ⟨g', gm, ms, cl, seen, h1, h2, h3, _⟩ := h
    simp only [claims] at hc
    rw [h1] at hc
    simp at hc
    subst hc
    exact .inr (.inr (.inl ⟨_, _, _, _, h2⟩))
  | loop f p ph ts => exact .inr (.inr (.inr rfl))

/-- Of an own block that is no loop's record nothing is promised. -/
theorem InvH.free' {B : Nat → Prop} {w0 : World} {Ψ : Pr} {β : List Value} {h : List Blk} {w : World} (hi : InvH C.P B w0 Ψ β h w) {k g : Nat} {b : Blk} (hk : h[k]? = some b) (hc : claims β k g b) (hn : b.isLoop = false) (a : Addr) (ha : a.block = g) : Ψ a = none := by
  cases hp : Ψ a with
  | none => rfl
  | some v =>
    exfalso
    by_cases hs : pl a
    · rw [hi.free k b g hk hc a ha hs] at hp; cases hp
    · have h1 := Pm_spot hs (hi.prom a v hp)
      rw [ha] at h1
      rcases claims_obj (hi.blk k b hk) hc with ⟨c, e, s, h2⟩ | ⟨ms, cl, h2⟩ | ⟨m, s, seen, c, h2⟩ | hl
      · obtain ⟨r, h1⟩ := h1; rw [h2] at h1; cases h1
      · obtain ⟨r, h1⟩ := h1; rw [h2] at h1; cases h1
      · obtain ⟨r, h1⟩ := h1; rw [h2] at h1; cases h1
      · rw [hl] at hn; cases hn

theorem InvH.step {B : Nat → Prop} {w0 : World} {Ψ Ψ' : Pr} {β : List Value} {h : List Blk} {w w' : World} (hi : InvH C.P B w0 Ψ β h w) (hs : Step Ψ w Ψ' w') : InvH C.P B w0 Ψ' β h w' where
  low := hi.low.trans (below_S hs.below hi.size)
  size := fun k hk => Nat.lt_of_lt_of_le (hi.size k hk) hs.below.size
  prom := fun a v hv => by
    rcases hs.new a v hv with h' | ⟨_, h1, h2⟩
    · have h1 := hi.prom a v h'
      exact Pm_of_block (hs.below.block a.block (Pm_lt h1)) h1
    · exact Pm_mk h1 h2
  own := fun a v hv hsp => by
    rcases hs.new a v hv with h' | ⟨_, h1, h2⟩
    · exact hi.own a v h' hsp
    · rw [h1] at hsp; cases hsp
  len := hi.len
  one := hi.one
  blk := fun k b hb => BlkR_step hs (hi.blk k b hb)
  free := fun k b g hb hc a ha hsp => by
    cases hp : Ψ' a with
    | none => rfl
    | some v =>
      rcases hs.new a v hp with h' | ⟨h1, _⟩
      · rw [hi.free k b g hb hc a ha hsp] at h'; cases h'
      · have := (claims_lt (hi.blk k b hb) hc).2
        omega
  sep := hi.sep

theorem Dok_mono {Ψ Ψ' : Pr} (h : PLe Ψ Ψ') {a : Act} : Dok Ψ a → Dok Ψ' a
  | ⟨ds, e, hn, hd⟩ => ⟨ds, e, hn, fun D hD => h _ _ (hd D hD)⟩

theorem RelF_mono {Ψ Ψ' : Pr} {β β' : List Value} (h : PLe Ψ Ψ') (hb : ∀ (k : Nat) (v : Value), β[k]? = some v → β'[k]? = some v) : ∀ (fs : List (List AV)) (as : List Act), RelF Ψ β fs as → RelF Ψ' β' fs as
  | [], _, hr => hr
  | _ :: fs, _, ⟨a, as', e, ⟨h1, h2⟩, hr⟩ => ⟨a, as', e, ⟨Dok_mono h h1, RelL_mono h hb _ _ h2⟩, RelF_mono h hb fs as' hr⟩

theorem Inv.step {B : Nat → Prop} {w0 : World} {Ψ Ψ' : Pr} {β : List Value} {s : St} {acts : List Act} {w w' : World} (hi : Inv C.P B w0 Ψ β s acts w) (hs : Step Ψ w Ψ' w') : Inv C.P B w0 Ψ' β s acts w' :=
  ⟨hi.hp.step hs, RelF_mono hs.le (fun _ _ h => h) _ _ hi.fr⟩

end Go.AM
namespace Go.AM
set_option linter.unusedVariables false
open Go.RowKit

variable {B : Nat → Prop} {w0 : World} {C : Ctx} {Ψ : Pr} {β : List Value} {h : List Blk} {w : World} {fr : List AV} {a : Act}

theorem rv_int {k : IntKind} {n : Int} {v : Value} : RelV Ψ β (.d (.int k) n) v ↔ v = .int k n ∧ k.has n := by
  constructor
  · rintro ⟨cs, ⟨h1, h2⟩, e⟩
    subst h1
    simp [Ty.isAgg] at e
    exact ⟨e.symm, h2⟩
  · rintro ⟨rfl, h2⟩
    exact ⟨_, ⟨rfl, h2⟩, rfl⟩

theorem rv_bool {b : Bool} {v : Value} : RelV Ψ β (.d .bool b) v ↔ v = .bool b := by
  constructor
  · rintro ⟨cs, h1, e⟩
    simp only [reads] at h1
    subst h1
    simp [Ty.isAgg] at e
    exact e.symm
  · rintro rfl
    exact ⟨_, rfl, rfl⟩

theorem rv_str {l : List Int} {v : Value} : RelV Ψ β (.d .str l) v ↔ v = .string (strOf l) ∧ (∀ c ∈ l, 0 ≤ c ∧ c ≤ 255) ∧ l.length ≤ maxLen := by
  constructor
  · rintro ⟨cs, ⟨h1, h2⟩, e⟩
    subst h1
    simp [Ty.isAgg] at e
    exact ⟨e.symm, h2⟩
  · rintro ⟨rfl, h2⟩
    exact ⟨_, ⟨rfl, h2⟩, rfl⟩

theorem rv_arr {e : Ty} {xs : List e.den} {v : Value} : RelV Ψ β (.d (.arr e) xs) v ↔ ∃ ad cap, v = .slice ad xs.length cap ∧ xs.length ≤ cap ∧ cap ≤ maxLen ∧ (xs = [] ∨ ∃ cells, rdL (reads Ψ e) xs cells ∧ rowAt Ψ ad cells) := by
  constructor
  · rintro ⟨cs, ⟨ad, cap, h1, h2⟩, e⟩
    subst h1
    simp [Ty.isAgg] at e
    exact ⟨ad, cap, e.symm, h2⟩
  · rintro ⟨ad, cap, rfl, h2⟩
    exact ⟨_, ⟨ad, cap, rfl, h2⟩, rfl⟩

theorem RelV_bool {av : AV} {v : Value} {b : Bool} (hr : RelV Ψ β av v) (hb : asB av = some b) : v = .bool b := by
  unfold asB at hb
  split at hb <;> simp at hb
  · subst hb; exact hr
  · subst hb; exact hr
  · subst hb; exact rv_bool.1 hr

theorem boolAV_rel (b : Bool) : RelV Ψ β (boolAV b) (.bool b) := rv_bool.2 rfl

theorem strOf_bytesOf (s : ByteArray) : strOf (bytesOf s) = s := by
  unfold strOf bytesOf
  have : ((s.data.toList.map fun b => (b.toNat : Int)).map fun n => UInt8.ofNat n.toNat) = s.data.toList := by
    rw [List.map_map]
    conv => rhs; rw [← List.map_id s.data.toList]
    apply List.map_congr_left
    intro b _
    simp
  rw [this]

theorem bytesOf_bd (s : ByteArray) : ∀ c ∈ bytesOf s, 0 ≤ c ∧ c ≤ 255 := by
  intro c hc
  obtain ⟨b, _, rfl⟩ := List.mem_map.1 hc
  have := b.toNat_lt
  omega

theorem bytesOf_len (s : ByteArray) : (bytesOf s).length = s.size := by
  simp [bytesOf]

theorem ofV1_rel (v : Value) : RelV Ψ β (ofV1 v) v := by
  unfold ofV1
  split
  · rfl
  · rfl
  · split
    · rename_i hk; exact rv_int.2 ⟨rfl, by simpa [inKind, IntKind.has] using hk⟩
    · trivial
  · split
    · rename_i hs; exact rv_str.2 ⟨by rw [strOf_bytesOf], bytesOf_bd _, by rw [bytesOf_len]; exact hs⟩
    · trivial
  · rfl
  · rfl
  · rfl
  · trivial

theorem ofVs_rel : ∀ vs : List Value, RelL Ψ β (ofVs vs) vs
  | [] => rfl
  | v :: vs => ⟨v, vs, rfl, ofV1_rel v, ofVs_rel vs⟩

theorem ofV_rel (v : Value) : RelV Ψ β (ofV v) v := by
  unfold ofV
  split
  · split
    · rename_i cs hc
      exact ⟨cs.toList, by simp, ofVs_rel _, fun u hu => List.all_eq_true.1 hc u hu⟩
    · trivial
  · exact ofV1_rel v

theorem ev_rel (hf : RelFr Ψ β fr a) (x : Operand) : RelV Ψ β (ev fr x) (a.eval x) := by
  cases x with
  | tmp t =>
    have := RelL_get _ _ hf.2 t
    simpa [ev, Act.eval, Array.getD_eq_getD_getElem?, List.getD_eq_getElem?_getD] using this
  | const v => exact ofV_rel v
  | global g => trivial
  | func f => exact ⟨[], rfl, rfl⟩

/-! ### Operations that leave the heap alone -/
/-- What is shown of one operation that leaves the heap alone. -/
def NOk (C : Ctx) (Ψ : Pr) (β : List Value) (w : World) (s : Sem Value) (av : AV) : Prop :=
  ∃ v Ψ' w', s.run C.P w = .ok v w' ∧ Step Ψ w Ψ' w' ∧ RelV Ψ' β av v

theorem NOk.of_run {s : Sem Value} {av : AV} {v : Value} (hr : s.run C.P w = .ok v w) (hv : RelV Ψ β av v) : NOk C Ψ β w s av :=
  ⟨v, Ψ, w, hr, Step.refl _ _, hv⟩

theorem has_wrap (k : IntKind) (n : Int) : k.has (k.wrap n) := by
  unfold IntKind.has
  cases k <;> simp [IntKind.wrap, IntKind.min, IntKind.max, IntKind.bits, IntKind.signed] <;> omega

theorem wrap_i64 {n : Int} (h : isI64 n) : IntKind.i64.wrap n = n := by
  unfold isI64 at h
  simp [IntKind.wrap, IntKind.bits, IntKind.signed]
  omega

theorem has_i64 {n : Int} : IntKind.i64.has n ↔ isI64 n := by
  unfold IntKind.has isI64
  simp [IntKind.min, IntKind.max, IntKind.bits, IntKind.signed]

theorem wrap_has {k : IntKind} {n : Int} (h : k.has n) : k.wrap n = n := by
  unfold IntKind.has at h
  cases k <;> simp [IntKind.wrap, IntKind.min, IntKind.max, IntKind.bits, IntKind.signed] at * <;> omega

def outOk (r : Out) (h : List Blk) : Prop := r.heap = h ∧ r.kill = none

theorem ok0_inv {h : List Blk} {v : AV} {r : Out} (e : ok0 h v = some r) : r = ⟨none, v, h, none⟩ := by simpa [ok0] using e.symm
theorem okP_inv {h : List Blk} {p : Prop} {v : AV} {r : Out} (e : okP h p v = some r) : r = ⟨some p, v, h, none⟩ := by simpa [okP] using e.symm

theorem arith_inv {k : IntKind} {n : Int} {r : Out} (e : arith h k n = some r) (hp : ∀ p, r.need = some p → p) :
    r.heap = h ∧ r.kill = none ∧ RelV Ψ β r.v (.int k (k.wrap n)) := by
  unfold arith at e
  split at e
  · have := okP_inv e; subst this
    have hn : isI64 n := hp _ rfl
    exact ⟨rfl, rfl, rv_int.2 ⟨by rw [wrap_i64 hn], has_i64.2 hn⟩⟩
  · have := ok0_inv e; subst this
    exact ⟨rfl, rfl, rv_int.2 ⟨rfl, has_wrap _ _⟩⟩

theorem strOf_toList (l : List Int) : (strOf l).data.toList = l.map fun n => UInt8.ofNat n.toNat := by simp [strOf]

theorem strOf_inj {l m : List Int} (hl : ∀ c ∈ l, 0 ≤ c ∧ c ≤ 255) (hm : ∀ c ∈ m, 0 ≤ c ∧ c ≤ 255) (e : strOf l = strOf m) : l = m := by
  have h1 := congrArg (fun s => bytesOf s) e
  have key : ∀ l : List Int, (∀ c ∈ l, 0 ≤ c ∧ c ≤ 255) → bytesOf (strOf l) = l := by
    intro l hl
    unfold bytesOf
    rw [strOf_toList, List.map_map]
    conv => rhs; rw [← List.map_id l]
    apply List.map_congr_left
    intro c hc
    have := hl c hc
    simp
    omega
  simp only [key l hl, key m hm] at h1
  exact h1

theorem strOf_size (l : List Int) : (strOf l).size = l.length := by
  show (strOf l).data.size = _
  simp [strOf]

theorem bytesOf_strOf {l : List Int} (hl : ∀ c ∈ l, 0 ≤ c ∧ c ≤ 255) : bytesOf (strOf l) = l :=
  strOf_inj (bytesOf_bd _) hl (strOf_bytesOf _)

theorem shl_ok (k yk : IntKind) (x y : Int) (h0 : 0 ≤ y) (h1 : y ≤ k.bits) : (Op.shift .shl k x yk y).run C.P w = .ok (.int k (k.wrap (x * 2 ^ y.toNat))) w := by
  rw [shift_shl k yk x y h0 h1]; rfl
theorem shr_ok (k yk : IntKind) (x y : Int) (h0 : 0 ≤ y) (h1 : y ≤ k.bits) : (Op.shift .shr k x yk y).run C.P w = .ok (.int k (x / 2 ^ y.toNat)) w := by
  rw [shift_shr k yk x y h0 h1]; rfl

theorem has_div {k : IntKind} {x : Int} (h : k.has x) (n : Nat) : k.has (x / 2 ^ n) := by
  have hpos : (0 : Int) < 2 ^ n := Int.pow_pos (by decide)
  unfold IntKind.has at *
  have hmin : k.min ≤ 0 := by cases k <;> simp [IntKind.min, IntKind.bits, IntKind.signed]
  have hmax : 0 ≤ k.max := by cases k <;> simp [IntKind.max, IntKind.bits, IntKind.signed]
  constructor
  · rcases Int.lt_or_le x 0 with hx | hx
    · have : x ≤ x / 2 ^ n := by
        have h1 : x * 2 ^ n ≤ x := by
          have : x * 2 ^ n ≤ x * 1 := Int.mul_le_mul_of_nonpos_left (by omega) (by omega)
          omega
        exact (Int.le_ediv_iff_mul_le hpos).2 h1
      omega
    · have := Int.ediv_nonneg hx (Int.le_of_lt hpos); omega
  · rcases Int.lt_or_le x 0 with hx | hx
    · have := Int.ediv_neg_of_neg_of_pos hx hpos; omega
    · have := Int.ediv_le_self (2 ^ n) hx; omega

theorem emod_le_self {x y : Int} (h : 0 ≤ x) : x % y ≤ x := by
  obtain ⟨n, rfl⟩ := Int.eq_ofNat_of_zero_le h
  rcases Int.natAbs_eq y with hy | hy
  · rw [hy, ← Int.natCast_emod]
    have := Nat.mod_le n y.natAbs
    omega
  · rw [hy, Int.emod_neg, ← Int.natCast_emod]
    have := Nat.mod_le n y.natAbs
    omega

theorem has_tmod {k : IntKind} {x y : Int} (hx : k.has x) (_hy : k.has y) : k.has (x.tmod y) := by
  unfold IntKind.has at *
  have hmin : k.min ≤ 0 := by cases k <;> simp [IntKind.min, IntKind.bits, IntKind.signed]
  have hmax : 0 ≤ k.max := by cases k <;> simp [IntKind.max, IntKind.bits, IntKind.signed]
  rcases Int.lt_or_le x 0 with h | h
  · have e : x.tmod y = -((-x).tmod y) := by rw [Int.neg_tmod]; omega
    have h1 : 0 ≤ (-x).tmod y := Int.tmod_nonneg _ (by omega)
    have h2 : (-x).tmod y ≤ -x := by rw [Int.tmod_eq_emod_of_nonneg (by omega)]; exact emod_le_self (by omega)
    omega
  · have h1 : 0 ≤ x.tmod y := Int.tmod_nonneg _ h
    have h2 : x.tmod y ≤ x := by rw [Int.tmod_eq_emod_of_nonneg h]; exact emod_le_self h
    omega

theorem bits_ok (op : BinOp) (k : IntKind) (x y : Int) (ho : op = .and ∨ op = .or ∨ op = .xor ∨ op = .andNot) : (Op.intBits op k x y).run C.P w = .ok (.int k (bitsOp op k x y)) w := by
  rcases ho with rfl | rfl | rfl | rfl <;> rfl

theorem ibin_ok {op : BinOp} {xt : TypeId} {k k' : IntKind} {m n : Int} {r : Out} (hm : k.has m) (hn : k'.has n)
    (hr : ibin h op k k' m n = some r) (hp : ∀ p, r.need = some p → p) :
    r.heap = h ∧ r.kill = none ∧ NOk C Ψ β w (binOp op xt (.int k m) (.int k' n)) r.v := by
  unfold ibin at hr
  split at hr
  · -- shl
    split at hr
    · have := okP_inv hr; subst this
      obtain ⟨h0, h1, h2⟩ := hp _ rfl
      refine ⟨rfl, rfl, NOk.of_run (v := .int .i64 (m * 2 ^ n.toNat)) ?_ (rv_int.2 ⟨rfl, has_i64.2 h2⟩)⟩
      rw [binOp_shl, shl_ok _ _ _ _ h0 (by simp [IntKind.bits]; omega), wrap_i64 h2]
    · have := okP_inv hr; subst this
      obtain ⟨h0, h1⟩ := hp _ rfl
      refine ⟨rfl, rfl, NOk.of_run (v := .int k (k.wrap (m * 2 ^ n.toNat))) ?_ (rv_int.2 ⟨rfl, has_wrap _ _⟩)⟩
      rw [binOp_shl, shl_ok _ _ _ _ h0 h1]
  · -- shr
    have := okP_inv hr; subst this
    obtain ⟨h0, h1⟩ := hp _ rfl
    refine ⟨rfl, rfl, NOk.of_run (v := .int k (m / 2 ^ n.toNat)) ?_ (rv_int.2 ⟨rfl, has_div hm _⟩)⟩
    rw [binOp_shr, shr_ok _ _ _ _ h0 h1]
  · split at hr
    · rename_i hk
      subst hk
      have hboo : ∀ b : Bool, ok0 h (boolAV b) = some r → (binOp op xt (.int k m) (.int k n)).run C.P w = .ok (.bool b) w →
          r.heap = h ∧ r.kill = none ∧ NOk C Ψ β w (binOp op xt (.int k m) (.int k n)) r.v := by
        intro b e hb
        have := ok0_inv e; subst this
        exact ⟨rfl, rfl, NOk.of_run hb (boolAV_rel b)⟩
      split at hr
      · obtain ⟨h1, h2, h3⟩ := arith_inv (Ψ := Ψ) (β := β) hr hp
        exact ⟨h1, h2, NOk.of_run (by rw [binOp_add]; rfl) h3⟩
      · obtain ⟨h1, h2, h3⟩ := arith_inv (Ψ := Ψ) (β := β) hr hp
        exact ⟨h1, h2, NOk.of_run (by rw [binOp_sub]; rfl) h3⟩
      · obtain ⟨h1, h2, h3⟩ := arith_inv (Ψ := Ψ) (β := β) hr hp
        exact ⟨h1, h2, NOk.of_run (by rw [binOp_mul]; rfl) h3⟩
      · -- quo
        split at hr
        · have := okP_inv hr; subst this
          obtain ⟨h0, h1⟩ := hp _ rfl
          refine ⟨rfl, rfl, NOk.of_run (v := .int .i64 (m.tdiv n)) ?_ (rv_int.2 ⟨rfl, has_i64.2 h1⟩)⟩
          rw [binOp_quo]; simp [Op.intDiv, h0, wrap_i64 h1]
        · have := okP_inv hr; subst this
          have h0 := hp _ rfl
          refine ⟨rfl, rfl, NOk.of_run (v := .int k (k.wrap (m.tdiv n))) ?_ (rv_int.2 ⟨rfl, has_wrap _ _⟩)⟩
          rw [binOp_quo]; simp [Op.intDiv, h0]
      · have := okP_inv hr; subst this
        have h0 := hp _ rfl
        refine ⟨rfl, rfl, NOk.of_run (v := .int k (m.tmod n)) ?_ (rv_int.2 ⟨rfl, has_tmod hm hn⟩)⟩
        rw [binOp_rem]; simp [Op.intDiv, h0]
      · have := ok0_inv hr; subst this
        exact ⟨rfl, rfl, NOk.of_run (by rw [binOp_and]; exact bits_ok _ _ _ _ (.inl rfl)) (rv_int.2 ⟨rfl, has_wrap _ _⟩)⟩
      · have := ok0_inv hr; subst this
        exact ⟨rfl, rfl, NOk.of_run (by rw [binOp_or]; exact bits_ok _ _ _ _ (.inr (.inl rfl))) (rv_int.2 ⟨rfl, has_wrap _ _⟩)⟩
      · have := ok0_inv hr; subst this
        exact ⟨rfl, rfl, NOk.of_run (by rw [binOp_xor]; exact bits_ok _ _ _ _ (.inr (.inr (.inl rfl)))) (rv_int.2 ⟨rfl, has_wrap _ _⟩)⟩
      · have := ok0_inv hr; subst this
        exact ⟨rfl, rfl, NOk.of_run (by rw [binOp_andNot]; exact bits_ok _ _ _ _ (.inr (.inr (.inr rfl)))) (rv_int.2 ⟨rfl, has_wrap _ _⟩)⟩
      · exact hboo _ hr (by rw [binOp_eql]; rfl)
      · exact hboo _ hr (by rw [binOp_neq]; rfl)
      · exact hboo _ hr (by rw [binOp_lss]; rfl)
      · exact hboo _ hr (by rw [binOp_leq]; rfl)
      · exact hboo _ hr (by rw [binOp_gtr]; rfl)
      · exact hboo _ hr (by rw [binOp_geq]; rfl)
      · cases hr
    · cases hr

theorem equalIn_bool {xt : TypeId} (hu : C.P.underlying xt = some .bool) (b c : Bool) (d : Nat) : (Op.equalIn (d + 1) xt (.bool b) (.bool c)).run C.P w = .ok (b == c) w := by
  simp [Op.equalIn, run_underlying hu]

theorem equal_bool {xt : TypeId} (hb : isBoolT C xt = true) (b c : Bool) : (Op.equal xt (.bool b) (.bool c)).run C.P w = .ok (b == c) w := by
  unfold isBoolT at hb
  split at hb
  · rename_i hu
    exact equalIn_bool hu b c 9999
  · cases hb

theorem binop_ok {op : BinOp} {xt : TypeId} {x y : Operand} {av bv : AV} {u v : Value} {r : Out} (hx : RelV Ψ β av u) (hy : RelV Ψ β bv v)
    (hr : abin C h op xt av bv = some r) (hp : ∀ p, r.need = some p → p) :
    r.heap = h ∧ r.kill = none ∧ NOk C Ψ β w (do eqGuard op xt x y u v; binOp op xt u v) r.v := by
  have hrun : ∀ s : Sem Value, ((pure () : Sem Unit) >>= fun _ => s) = s := fun _ => rfl
  unfold abin at hr
  split at hr
  · -- integers
    rename_i k m k' n
    obtain ⟨rfl, hm⟩ := rv_int.1 hx
    obtain ⟨rfl, hn⟩ := rv_int.1 hy
    rw [eqGuard_at_int, hrun]
    exact ibin_ok hm hn hr hp
  · -- strings
    rename_i l m
    obtain ⟨rfl, hl, hl'⟩ := rv_str.1 hx
    obtain ⟨rfl, hm, hm'⟩ := rv_str.1 hy
    rw [eqGuard_at_string, hrun]
    have heq : ((strOf l).toList == (strOf m).toList) = decide (l = m) := by
      rw [Bool.eq_iff_iff]
      simp only [beq_iff_eq, decide_eq_true_eq]
      constructor
      · intro e
        refine strOf_inj hl hm ?_
        have e1 : (strOf l).toList = (strOf l).data.toList := ByteArray.toList_eq _
        have e2 : (strOf m).toList = (strOf m).data.toList := ByteArray.toList_eq _
        rw [e1, e2] at e
        exact ByteArray.ext (Array.ext' e)
      · rintro rfl; rfl
    split at hr
    · have := ok0_inv hr; subst this
      refine ⟨rfl, rfl, NOk.of_run (v := .bool (decide (l = m))) ?_ (boolAV_rel _)⟩
      show (Op.stringOp .eql _ _).run C.P w = _
      simp [Op.stringOp, heq]
    · have := ok0_inv hr; subst this
      refine ⟨rfl, rfl, NOk.of_run (v := .bool (!decide (l = m))) ?_ (boolAV_rel _)⟩
      show (Op.stringOp .neq _ _).run C.P w = _
      simp [Op.stringOp, heq]
    · cases hr
  · split at hr
    · rename_i hbt
      split at hr
      · rename_i b c hb hc
        have e1 := RelV_bool hx hb; have e2 := RelV_bool hy hc
        subst e1 e2
        rw [eqGuard_at_bool, hrun]
        have := ok0_inv hr; subst this
        refine ⟨rfl, rfl, NOk.of_run (v := .bool (b == c)) ?_ (boolAV_rel _)⟩
        simp [binOp, equal_bool hbt]
      · rename_i b c hb hc
        have e1 := RelV_bool hx hb; have e2 := RelV_bool hy hc
        subst e1 e2
        rw [eqGuard_at_bool, hrun]
        have := ok0_inv hr; subst this
        refine ⟨rfl, rfl, NOk.of_run (v := .bool (b != c)) ?_ (boolAV_rel _)⟩
        simp [binOp, equal_bool hbt, bne]
      · cases hr
    · cases hr

theorem unop_ok {op : UnOp} {av : AV} {u : Value} {r : Out} (hx : RelV Ψ β av u) (hr : aun h op av = some r) (hp : ∀ p, r.need = some p → p) :
    r.heap = h ∧ r.kill = none ∧ NOk C Ψ β w (Op.unary op u) r.v := by
  unfold aun at hr
  split at hr
  · have := ok0_inv hr; subst this
    have : u = .bool true := hx
    subst this
    exact ⟨rfl, rfl, NOk.of_run (v := .bool false) rfl rfl⟩
  · have := ok0_inv hr; subst this
    have : u = .bool false := hx
    subst this
    exact ⟨rfl, rfl, NOk.of_run (v := .bool true) rfl rfl⟩
  · have := ok0_inv hr; subst this
    rw [rv_bool.1 hx]
    exact ⟨rfl, rfl, NOk.of_run rfl (boolAV_rel _)⟩
  · obtain ⟨rfl, hm⟩ := rv_int.1 hx
    obtain ⟨h1, h2, h3⟩ := arith_inv (Ψ := Ψ) (β := β) hr hp
    exact ⟨h1, h2, NOk.of_run rfl h3⟩
  · cases hr

/-! ### Slices, lengths -/
theorem asList_rel {av : AV} {v : Value} {e : Ty} {xs : List e.den} (hi : InvH C.P B w0 Ψ β h w) (hr : RelV Ψ β av v) (hl : asList h av = some ⟨e, xs⟩) :
    ∃ ad cap, v = .slice ad xs.length cap ∧ xs.length ≤ cap ∧ cap ≤ maxLen ∧ (xs = [] ∨ ∃ cells g off, rdL (reads Ψ e) xs cells ∧ ad = some ⟨g, off, none⟩ ∧ ∀ j u, cells[j]? = some u → w.cell? ⟨g, off + j, none⟩ = some u) := by
  have key : ∀ {e : Ty} {xs : List e.den} {v : Value}, rv Ψ (.arr e) xs v → ∃ ad cap, v = .slice ad xs.length cap ∧ xs.length ≤ cap ∧ cap ≤ maxLen ∧ (xs = [] ∨ ∃ cells g off, rdL (reads Ψ e) xs cells ∧ ad = some ⟨g, off, none⟩ ∧ ∀ j u, cells[j]? = some u → w.cell? ⟨g, off + j, none⟩ = some u) := by
    intro e xs v hv
    obtain ⟨ad, cap, e1, h1, h2, h3⟩ := rv_arr (β := β).1 hv
    refine ⟨ad, cap, e1, h1, h2, h3.imp id ?_⟩
    rintro ⟨cells, hd, g, off, e2, hc⟩
    exact ⟨cells, g, off, hd, e2, fun j u hj => hi.prom _ _ (hc j u hj)⟩
  unfold asList at hl
  split at hl
  · simp at hl
    obtain ⟨rfl, hl⟩ := hl
    simp at hl
    subst hl
    exact key hr
  · simp at hl
    obtain ⟨rfl, hl⟩ := hl
    simp at hl
    subst hl
    exact key hr.choose_spec.2
  · rename_i k
    split at hl
    · rename_i tid e' xs' hg
      simp at hl
      obtain ⟨rfl, hl⟩ := hl
      simp at hl
      subst hl
      have h4 : β[k]? = some v := hr.1
      rcases hi.blk k _ (hget_some hg (by simp)) with ⟨ad, h1, rfl⟩ | ⟨g, cap, cur, h1, _, hB, hh, hn, hcap, hsz, hd⟩
      · rw [h1] at h4
        simp at h4
        subst h4
        exact ⟨ad, 0, rfl, Nat.le_refl _, by simp [maxLen], .inl rfl⟩
      · rw [h1] at h4
        simp at h4
        subst h4
        refine ⟨_, cap, rfl, hn, hcap, .inr ⟨_, g, 0, hd, rfl, fun j u hj => ?_⟩⟩
        have hcell : w.cell? ⟨g, 0 + j, none⟩ = cur[0 + j]? := by simp [World.cell?, hh]
        rw [hcell, Nat.zero_add]
        rw [List.getElem?_take] at hj
        split at hj
        · simpa using hj
        · cases hj
    · cases hl
  · cases hl

theorem underlying_slice {t tid : TypeId} (he : elemOf C t = some tid) : C.P.underlying t = some (.slice tid) := by
  unfold elemOf at he
  split at he
  · rename_i hu; simp at he; subst he; exact hu
  · cases he

theorem has_len {n : Nat} (hn : n ≤ maxLen) : IntKind.i64.has (n : Int) := by
  rw [has_i64]
  unfold isI64
  simp [maxLen] at hn
  omega

/-- 'len' of a slice or a string: what the type is makes no difference where the value says it. -/
theorem mapR_len' {e : Ty} : ∀ {m : List (Int × e.den)} {l : List MapEntry}, mapR Ψ e m l → m.length = l.length
  | [], l, h => by
    have h : l = [] := h
    subst h
    rfl
  | p :: m, l, ⟨x, es', h1, _, _, _, h5⟩ => by subst h1; simp [mapR_len' h5]

theorem len_ok {av : AV} {v : Value} {r : Out} {t ty : TypeId} (hi : InvH C.P B w0 Ψ β h w) (hx : RelV Ψ β av v) (hr : alen C h t av = some r) (hp : ∀ p, r.need = some p → p) :
    r.heap = h ∧ r.kill = none ∧ NOk C Ψ β w (Builtin.len_ #[t] ty #[v]) r.v := by
  unfold alen at hr
  split at hr
  · rename_i l hu
    obtain ⟨rfl, hl, hl'⟩ := rv_str.1 hx
    have := ok0_inv hr; subst this
    refine ⟨rfl, rfl, NOk.of_run (v := .int .i64 l.length) ?_ (rv_int.2 ⟨rfl, has_len hl'⟩)⟩
    simp [Builtin.len_, run_underlying hu, goInt, strOf_size]
  · rename_i hu
    have : v = .slice none 0 0 := hx
    subst this
    have := ok0_inv hr; subst this
    refine ⟨rfl, rfl, NOk.of_run (v := .int .i64 0) ?_ (rv_int.2 ⟨rfl, has_len (n := 0) (by simp [maxLen])⟩)⟩
    simp [Builtin.len_, run_underlying hu, goInt]
  · rename_i e hu _
    split at hr
    · rename_i e' xs hl
      obtain ⟨ad, cap, rfl, h1, h2, _⟩ := asList_rel hi hx hl
      have := ok0_inv hr; subst this
      refine ⟨rfl, rfl, NOk.of_run (v := .int .i64 xs.length) ?_ (rv_int.2 ⟨rfl, has_len (by omega)⟩)⟩
      simp [Builtin.len_, run_underlying hu, goInt]
    · cases hr
  · rename_i kt et j hu
    split at hr
    · rename_i e m hg
      simp at hr
      subst hr
      obtain ⟨g, ms, cl, hβ, hh, _, hm, _⟩ := hi.blk j _ (hget_some hg (by simp))
      have hv : v = .map (some g) := by
        have h1 : β[j]? = some v := hx.1
        rw [hβ] at h1
        simpa using h1.symm
      subst hv
      have hlen : m.length = ms.size := by rw [mapR_len' hm, Array.length_toList]
      have hb : (m.length : Int) ≤ 9223372036854775807 := hp _ rfl
      have hhas : IntKind.i64.has (m.length : Int) := by
        have h1 : IntKind.i64.min = -9223372036854775808 := by decide
        have h2 : IntKind.i64.max = 9223372036854775807 := by decide
        unfold IntKind.has
        omega
      refine ⟨rfl, rfl, NOk.of_run (v := .int .i64 m.length) ?_ (rv_int.2 ⟨rfl, hhas⟩)⟩
      simp [Builtin.len_, run_underlying hu, goInt, MapKept.run_getObj_map hh, Result.andThen, hlen]
    · cases hr
  · cases hr

end Go.AM
namespace Go.AM
set_option linter.unusedVariables false
open Go.RowKit

variable {B : Nat → Prop} {w0 : World} {C : Ctx} {Ψ : Pr} {β : List Value} {h : List Blk} {w : World} {fr : List AV} {a : Act}

theorem foldMin_cons {kd : IntKind} {c : AV} {l : List AV} {n m : Int} (hf : foldMin kd (c :: l) n = some m) : ∃ k : Int, c = .d (.int kd) k ∧ foldMin kd l (min n k) = some m := by
  unfold foldMin at hf
  split at hf
  · rename_i he; cases he
  · rename_i he
    simp only [List.cons.injEq] at he
    obtain ⟨rfl, rfl⟩ := he
    split at hf
    · rename_i hk; subst hk; exact ⟨_, rfl, hf⟩
    · cases hf
  · cases hf

theorem foldMin_ok {kd : IntKind} : ∀ (l : List AV) (n m : Int) (vs : List Value), foldMin kd l n = some m → RelL Ψ β l vs → kd.has n →
    (vs.foldlM Builtin.min2 (.int kd n)).run C.P w = .ok (.int kd m) w ∧ kd.has m
  | [], n, m, vs, hf, hl, hn => by
    simp only [foldMin, Option.some.injEq] at hf
    simp only [RelL] at hl
    subst hf hl
    exact ⟨rfl, hn⟩
  | c :: l, n, m, vs, hf, ⟨v, vs', e, hv, hl⟩, hn => by
    obtain ⟨k, rfl, hf'⟩ := foldMin_cons hf
    obtain ⟨rfl, hk⟩ := rv_int.1 hv
    subst e
    have hm : kd.has (min n k) := by unfold IntKind.has at *; omega
    obtain ⟨h1, h2⟩ := foldMin_ok l _ m vs' hf' hl hm
    refine ⟨?_, h2⟩
    have e1 : Builtin.min2 (.int kd n) (.int kd k) = pure (.int kd (min n k)) := by
      simp only [Builtin.min2]
      congr 2
      split <;> omega
    rw [List.foldlM_cons, e1]
    exact h1

theorem foldMax_cons {kd : IntKind} {c : AV} {l : List AV} {n m : Int} (hf : foldMax kd (c :: l) n = some m) : ∃ k : Int, c = .d (.int kd) k ∧ foldMax kd l (max n k) = some m := by
  unfold foldMax at hf
  split at hf
  · rename_i he; cases he
  · rename_i he
    simp only [List.cons.injEq] at he
    obtain ⟨rfl, rfl⟩ := he
    split at hf
    · rename_i hk; subst hk; exact ⟨_, rfl, hf⟩
    · cases hf
  · cases hf

theorem foldMax_ok {kd : IntKind} : ∀ (l : List AV) (n m : Int) (vs : List Value), foldMax kd l n = some m → RelL Ψ β l vs → kd.has n →
    (vs.foldlM Builtin.max2 (.int kd n)).run C.P w = .ok (.int kd m) w ∧ kd.has m
  | [], n, m, vs, hf, hl, hn => by
    simp only [foldMax, Option.some.injEq] at hf
    simp only [RelL] at hl
    subst hf hl
    exact ⟨rfl, hn⟩
  | c :: l, n, m, vs, hf, ⟨v, vs', e, hv, hl⟩, hn => by
    obtain ⟨k, rfl, hf'⟩ := foldMax_cons hf
    obtain ⟨rfl, hk⟩ := rv_int.1 hv
    subst e
    have hm : kd.has (max n k) := by unfold IntKind.has at *; omega
    obtain ⟨h1, h2⟩ := foldMax_ok l _ m vs' hf' hl hm
    refine ⟨?_, h2⟩
    have e1 : Builtin.max2 (.int kd n) (.int kd k) = pure (.int kd (max n k)) := by
      simp only [Builtin.max2]
      congr 2
      split <;> omega
    rw [List.foldlM_cons, e1]
    exact h1

theorem sliceBound_ok {k : IntKind} {i : Int} {y : Nat} {code : BoundsCode} (h0 : 0 ≤ i) (h1 : i ≤ y) :
    (Instr.sliceBound (.int k i) y code).run C.P w = .ok i.toNat w := by
  simp [Instr.sliceBound, asIntOf, h0, h1]

theorem optInt {x : Option AV} {v : Option Value} {n : Int} (hr : match x, v with | none, none => True | some av, some u => RelV Ψ β av u | _, _ => False)
    (hx : ∃ k, x = some (.d (.int k) n)) : ∃ k, v = some (.int k n) := by
  obtain ⟨k, rfl⟩ := hx
  cases v with
  | none => exact hr.elim
  | some u => exact ⟨k, by rw [(rv_int.1 hr).1]⟩

/-- An option of an operand, and its value. -/
def RelO (Ψ : Pr) (β : List Value) : Option AV → Option Value → Prop
  | none, v => v = none
  | some av, v => ∃ u, v = some u ∧ RelV Ψ β av u

theorem RelO.int {Ψ : Pr} {β : List Value} {k : IntKind} {n : Int} {v : Option Value} (hr : RelO Ψ β (some (.d (.int k) n)) v) : v = some (.int k n) := by
  obtain ⟨u, rfl, hu⟩ := hr
  rw [(rv_int.1 hu).1]

theorem sliceBounds_ok {isSlice : Bool} {len cap : Nat} {lo hi mx : Option AV} {l h' m : Option Value} (hl : RelO Ψ β lo l) (hh : RelO Ψ β hi h') (hm : RelO Ψ β mx m)
    {x : Int} {y z : Option Int} (he : ainterp lo hi mx = some (x, y, z)) (hx : 0 ≤ x) (hxy : x ≤ y.getD len) (hyz : ∀ n, y = some n → n ≤ z.getD cap) (hz : ∀ n, z = some n → n ≤ cap) (_hlc : len ≤ cap) :
    (Instr.sliceBounds isSlice len cap l h' m).run C.P w = .ok (x.toNat, (y.map Int.toNat).getD len, (z.map Int.toNat).getD cap) w ∧ (z.isSome → y.isSome) := by
  unfold ainterp at he
  split at he <;> simp only [Option.some.injEq, Prod.mk.injEq, reduceCtorEq] at he
  · obtain ⟨rfl, rfl, rfl⟩ := he
    simp only [RelO] at hl hh hm
    subst hl hh hm
    simp [Instr.sliceBounds]
  · obtain ⟨rfl, rfl, rfl⟩ := he
    simp only [RelO] at hh hm
    subst hh hm
    rw [hl.int]
    simp only [Option.getD_none] at hxy
    simp [Instr.sliceBounds, sliceBound_ok hx hxy]
  · obtain ⟨rfl, rfl, rfl⟩ := he
    simp only [RelO] at hl hm
    subst hl hm
    rw [hh.int]
    simp only [Option.getD_some] at hxy
    have := hyz _ rfl
    simp only [Option.getD_none] at this
    simp [Instr.sliceBounds, sliceBound_ok hxy this]
  · obtain ⟨rfl, rfl, rfl⟩ := he
    simp only [RelO] at hm
    subst hm
    rw [hh.int, hl.int]
    simp only [Option.getD_some] at hxy
    have h1 := hyz _ rfl
    simp only [Option.getD_none] at h1
    rename_i k n k' n'
    have hn' : 0 ≤ n' := Int.le_trans hx hxy
    have h2 : n ≤ ((n'.toNat : Nat) : Int) := by rw [Int.toNat_of_nonneg hn']; exact hxy
    simp [Instr.sliceBounds, sliceBound_ok hn' h1, sliceBound_ok hx h2]
  · obtain ⟨rfl, rfl, rfl⟩ := he
    simp only [RelO] at hl
    subst hl
    rw [hh.int, hm.int]
    simp only [Option.getD_some] at hxy
    have h1 := hyz _ rfl
    have h3 := hz _ rfl
    simp only [Option.getD_some] at h1
    rename_i k n k' n'
    have h0 : 0 ≤ n' := Int.le_trans hxy h1
    have h2 : n ≤ ((n'.toNat : Nat) : Int) := by rw [Int.toNat_of_nonneg h0]; exact h1
    simp [Instr.sliceBounds, sliceBound_ok h0 h3, sliceBound_ok hxy h2]
  · obtain ⟨rfl, rfl, rfl⟩ := he
    rw [hh.int, hm.int, hl.int]
    simp only [Option.getD_some] at hxy
    have h1 := hyz _ rfl
    have h3 := hz _ rfl
    simp only [Option.getD_some] at h1
    rename_i k n k' n' k'' n''
    have h00 : 0 ≤ n' := Int.le_trans hx hxy
    have h0 : 0 ≤ n'' := Int.le_trans h00 h1
    have h2 : n' ≤ ((n''.toNat : Nat) : Int) := by rw [Int.toNat_of_nonneg h0]; exact h1
    have h4 : n ≤ ((n'.toNat : Nat) : Int) := by rw [Int.toNat_of_nonneg h00]; exact hxy
    simp [Instr.sliceBounds, sliceBound_ok h0 h3, sliceBound_ok h00 h2, sliceBound_ok hx h4]

theorem sub_of_drop_take {l : List Value} {i n j : Nat} {u : Value} (hj : ((l.drop i).take n)[j]? = some u) : l[i + j]? = some u := by
  rw [List.getElem?_take] at hj
  split at hj
  · rwa [List.getElem?_drop] at hj
  · cases hj

/-- A part of a row of cells, as a slice. -/
theorem part_row {e : Ty} {xs : List e.den} {cells : List Value} {g off sz : Nat} (hd : rdL (reads Ψ e) xs cells) (hc : ∀ j u, cells[j]? = some u → Ψ ⟨g, off + j, none⟩ = some u) (hsz : sz = e.cells) (i n : Nat) :
    (xs.drop i).take n = [] ∨ ∃ cells', rdL (reads Ψ e) ((xs.drop i).take n) cells' ∧ rowAt Ψ (some ((⟨g, off, none⟩ : Addr).add (i * sz))) cells' := by
  subst hsz
  refine .inr ⟨(cells.drop (i * e.cells)).take (n * e.cells), rdL_take (reads_len e) _ _ n (rdL_drop (reads_len e) _ _ i hd), g, off + i * e.cells, ?_, ?_⟩
  · rw [Addr.add_lit]
  · intro j u hj
    have := hc _ _ (sub_of_drop_take hj)
    rwa [← Nat.add_assoc] at this

theorem drop_take_rv {e : Ty} {xs : List e.den} {v : Value} (hx : RelV Ψ β (.d (.arr e) xs) v) {sz : Nat} (hsz : sz = e.cells) {l n : Nat} (hln : l ≤ n) (hn : n ≤ xs.length) :
    ∃ ad cap, v = .slice ad xs.length cap ∧ xs.length ≤ cap ∧ cap ≤ maxLen ∧ (∀ m, n ≤ m → m ≤ cap → RelV Ψ β (.d (.arr e) ((xs.drop l).take (n - l))) (.slice (if m = l then ad else ad.map (·.add (l * sz))) (n - l) (m - l))) := by
  obtain ⟨ad, cap, e1, h1, h2, h3⟩ := rv_arr.1 hx
  refine ⟨ad, cap, e1, h1, h2, fun m hnm hmc => ?_⟩
  have hlen : ((xs.drop l).take (n - l)).length = n - l := by simp; omega
  rw [rv_arr]
  refine ⟨_, _, by rw [hlen], by rw [hlen]; omega, by omega, ?_⟩
  by_cases hml : m = l
  · left
    have : n - l = 0 := by omega
    rw [this]; rfl
  · rw [if_neg hml]
    rcases h3 with rfl | ⟨cells, hd, g, off, rfl, hc⟩
    · left; simp
    · exact part_row hd hc hsz l (n - l)

theorem RelO_of {fr : List AV} {a : Act} (o : Option Operand) (hev : ∀ x ∈ o.toArray, RelV Ψ β (ev fr x) (a.eval x)) : RelO Ψ β (optEv fr o) (o.map a.eval) := by
  cases o with
  | none => rfl
  | some x => exact ⟨_, rfl, hev x (by simp)⟩

theorem strOf_extract {l : List Int} (i n : Nat) : (strOf l).extract i n = strOf ((l.drop i).take (n - i)) := by
  apply ByteArray.ext
  apply Array.ext'
  simp [strOf, ByteArray.data_extract, List.map_drop, List.map_take]

theorem str_part {l : List Int} (hx : (∀ c ∈ l, 0 ≤ c ∧ c ≤ 255) ∧ l.length ≤ maxLen) (i n : Nat) : RelV Ψ β (.d .str ((l.drop i).take n)) (.string (strOf ((l.drop i).take n))) := by
  refine rv_str.2 ⟨rfl, fun c hc => hx.1 c (List.mem_of_mem_drop (List.mem_of_mem_take hc)), ?_⟩
  have := hx.2
  rw [List.length_take, List.length_drop]
  omega

theorem asList_rv {av : AV} {v : Value} {e : Ty} {xs : List e.den} (hr : RelV Ψ β av v) (hl : asList h av = some ⟨e, xs⟩) (hn : ∀ k, av ≠ .sl k) : RelV Ψ β (.d (.arr e) xs) v := by
  unfold asList at hl
  split at hl
  · simp at hl
    obtain ⟨rfl, hl⟩ := hl
    simp at hl
    subst hl
    exact hr
  · simp at hl
    obtain ⟨rfl, hl⟩ := hl
    simp at hl
    subst hl
    exact hr.choose_spec.2
  · exact absurd rfl (hn _)
  · cases hl

theorem size_of {t : TypeId} {n : Nat} (hs : C.size t = some n) : ∃ i, C.P.info? t = some i ∧ i.size = n := by
  unfold Ctx.size at hs
  split at hs
  · rename_i i hi
    exact ⟨i, hi, by simpa using hs⟩
  · cases hs

theorem run_sizeOf {t : TypeId} {n : Nat} (hs : C.size t = some n) (w : World) : (sizeOf t).run C.P w = .ok n w := by
  obtain ⟨i, hi, rfl⟩ := size_of hs
  simp [sizeOf, typeInfo, hi]

theorem arrayOf_spec {t e : TypeId} {n : Nat} (h : arrayOf C t = some (n, e)) : C.P.underlying t = some (.array n e) := by
  unfold arrayOf at h
  split at h
  · rename_i n' e' hu
    simp at h
    obtain ⟨rfl, rfl⟩ := h
    exact hu
  · cases h

theorem sliceArr_ok {t : TypeId} {av : AV} {v : Value} {lo hi mx : Option AV} {l h' m : Option Value} {r : Out} (hx : RelV Ψ β av v) (hl : RelO Ψ β lo l) (hh : RelO Ψ β hi h') (hm : RelO Ψ β mx m)
    (hr : asliceArr C h t av lo hi mx = some r) : r.heap = h ∧ r.kill = none ∧ NOk C Ψ β w (Instr.sliceAt t v l h' m) r.v := by
  unfold asliceArr at hr
  split at hr
  · rename_i n et ha
    simp only [RelO] at hl hh hm
    subst hl hh hm
    split at hr
    · rename_i sz k e xs hs
      split at hr
      · rename_i hc
        simp only [Bool.and_eq_true, Nat.beq_eq, Nat.ble_eq] at hc
        obtain ⟨⟨hsz, rfl⟩, hn⟩ := hc
        have := ok0_inv hr; subst this
        obtain ⟨g, off, cs, rfl, ⟨hlen, hd⟩, hp⟩ := hx
        refine ⟨rfl, rfl, NOk.of_run (v := .slice (some ⟨g, off, none⟩) k k) ?_ ⟨_, by rw [hlen], ⟨_, ⟨some ⟨g, off, none⟩, k, by rw [hlen], by omega, by simp [maxLen]; omega, .inr ⟨cs, hd, g, off, rfl, hp⟩⟩, rfl⟩⟩⟩
        simp [Instr.sliceAt, run_underlying (arrayOf_spec ha), Instr.sureAddr, Instr.sliceBounds, run_sizeOf hs]
        try (intro _; simp [Addr.add])
      · cases hr
    · cases hr
  · cases hr

theorem slice_ok0 {t : TypeId} {av : AV} {v : Value} {lo hi mx : Option AV} {l h' m : Option Value} {r : Out} (hx : RelV Ψ β av v) (hl : RelO Ψ β lo l) (hh : RelO Ψ β hi h') (hm : RelO Ψ β mx m)
    (hr : aslice0 C h t av lo hi mx = some r) (hp : ∀ p, r.need = some p → p) :
    r.heap = h ∧ r.kill = none ∧ NOk C Ψ β w (Instr.sliceAt t v l h' m) r.v := by
  unfold aslice0 at hr
  split at hr
  · cases hr
  · rename_i x y z he
    split at hr
    · -- a string
      rename_i s hu
      obtain ⟨rfl, hs1, hs2⟩ := rv_str.1 hx
      have hat : ∀ w, (Instr.sliceAt t (.string (strOf s)) l h' m).run C.P w = (Instr.slice t (.string (strOf s)) l h' m).run C.P w := by
        intro w; simp [Instr.sliceAt, run_underlying hu]
      split at hr
      · have := okP_inv hr; subst this
        obtain ⟨h0, h1⟩ := hp _ rfl
        have hmn : m = none := by
          unfold ainterp at he
          split at he <;> simp_all [RelO]
        subst hmn
        obtain ⟨hb, _⟩ := sliceBounds_ok (C := C) (w := w) (isSlice := false) (len := (strOf s).size) (cap := (strOf s).size) hl hh hm he h0 (by simp [strOf_size]; exact h1) (by simp) (by simp) (Nat.le_refl _)
        refine ⟨rfl, rfl, NOk.of_run (v := .string (strOf (s.drop x.toNat))) ?_ ?_⟩
        · rw [hat]
          simp only [Option.map_none, Option.getD_none, strOf_size] at hb
          simp [Instr.slice, run_underlying hu, strOf_size, hb, strOf_extract, ← List.length_drop, List.take_length]
        · have := str_part (Ψ := Ψ) (β := β) ⟨hs1, hs2⟩ x.toNat s.length
          rwa [List.take_of_length_le (by simp)] at this
      · rename_i n
        have := okP_inv hr; subst this
        obtain ⟨h0, h1, h2⟩ := hp _ rfl
        have hmn : m = none := by
          unfold ainterp at he
          split at he <;> simp_all [RelO]
        subst hmn
        obtain ⟨hb, _⟩ := sliceBounds_ok (C := C) (w := w) (isSlice := false) (len := (strOf s).size) (cap := (strOf s).size) hl hh hm he h0 (by simpa using h1) (by simp [strOf_size]; exact h2) (by simp) (Nat.le_refl _)
        refine ⟨rfl, rfl, NOk.of_run (v := .string (strOf ((s.drop x.toNat).take (n.toNat - x.toNat)))) ?_ (str_part ⟨hs1, hs2⟩ _ _)⟩
        rw [hat]
        simp only [Option.map_none, Option.getD_none, Option.map_some, Option.getD_some, strOf_size] at hb
        simp [Instr.slice, run_underlying hu, strOf_size, hb, strOf_extract]
      · cases hr
    · cases hr
    · -- a slice
      rename_i tid hu hnsl
      split at hr
      · rename_i e xs sz hl' hsz
        split at hr
        · rename_i hc
          have hc' : sz = e.cells := by simpa [Nat.beq_eq] using hc
          have hrv := asList_rv hx hl' (by intro k e; subst e; simp at hnsl)
          have hat : ∀ v' w, (Instr.sliceAt t v' l h' m).run C.P w = (Instr.slice t v' l h' m).run C.P w := by
            intro v' w; simp [Instr.sliceAt, run_underlying hu]
          split at hr
          · have := okP_inv hr; subst this
            obtain ⟨h0, h1⟩ := hp _ rfl
            obtain ⟨ad, cap, rfl, hlc, hcm, hout⟩ := drop_take_rv hrv hc' (l := x.toNat) (n := xs.length) (by omega) (Nat.le_refl _)
            obtain ⟨hb, _⟩ := sliceBounds_ok (C := C) (w := w) (isSlice := true) (len := xs.length) (cap := cap) hl hh hm he h0 (by simpa using h1) (by simp) (by simp) hlc
            simp only [Option.map_none, Option.getD_none] at hb
            refine ⟨rfl, rfl, NOk.of_run (v := _) ?_ (hout cap hlc (Nat.le_refl _))⟩
            rw [hat]
            simp [Instr.slice, run_underlying hu, hb, run_sizeOf hsz]
          · rename_i n
            have := okP_inv hr; subst this
            obtain ⟨h0, h1, h2⟩ := hp _ rfl
            have hn0 : 0 ≤ n := Int.le_trans h0 h1
            obtain ⟨ad, cap, rfl, hlc, hcm, hout⟩ := drop_take_rv hrv hc' (l := x.toNat) (n := n.toNat) (by omega) (by omega)
            obtain ⟨hb, _⟩ := sliceBounds_ok (C := C) (w := w) (isSlice := true) (len := xs.length) (cap := cap) hl hh hm he h0 (by simpa using h1) (by simp; omega) (by simp) hlc
            simp only [Option.map_none, Option.getD_none, Option.map_some, Option.getD_some] at hb
            refine ⟨rfl, rfl, NOk.of_run (v := _) ?_ (hout cap (by omega) (Nat.le_refl _))⟩
            rw [hat]
            simp [Instr.slice, run_underlying hu, hb, run_sizeOf hsz]
          · rename_i n m'
            have := okP_inv hr; subst this
            obtain ⟨h0, h1, h2, h3⟩ := hp _ rfl
            subst h3
            have hn0 : 0 ≤ m' := Int.le_trans h0 h1
            obtain ⟨ad, cap, rfl, hlc, hcm, hout⟩ := drop_take_rv hrv hc' (l := x.toNat) (n := m'.toNat) (by omega) (by omega)
            obtain ⟨hb, _⟩ := sliceBounds_ok (C := C) (w := w) (isSlice := true) (len := xs.length) (cap := cap) hl hh hm he h0 (by simpa using h1) (by simp) (by simp; omega) hlc
            simp only [Option.map_some, Option.getD_some] at hb
            have hlen : ((xs.drop x.toNat).take (m'.toNat - x.toNat)).length = m'.toNat - x.toNat := by simp; omega
            refine ⟨rfl, rfl, NOk.of_run (v := _) ?_ ⟨_, by rw [hlen], hout m'.toNat (Nat.le_refl _) (by omega)⟩⟩
            rw [hat]
            simp [Instr.slice, run_underlying hu, hb, run_sizeOf hsz]
          · cases hr
        · cases hr
      · cases hr
    · cases hr

theorem sliceV_ok {t : TypeId} {k : Nat} {v : Value} {lo hi mx : Option AV} {l h' m : Option Value} {r : Out} (hI : InvH C.P B w0 Ψ β h w) (hx : RelV Ψ β (.sl k) v) (hl : RelO Ψ β lo l) (hh : RelO Ψ β hi h') (hm : RelO Ψ β mx m)
    (hr : asliceV C h t k lo hi mx = some r) (hp : ∀ p, r.need = some p → p) :
    r.heap = h ∧ r.kill = none ∧ NOk C Ψ β w (Instr.sliceAt t v l h' m) r.v := by
  unfold asliceV at hr
  split at hr
  · rename_i x y he
    split at hr
    · rename_i tid tid' e xs hu hg
      split at hr
      · rename_i sz hsz
        split at hr
        · have := okP_inv hr; subst this
          obtain ⟨h0, h1, h2, h3⟩ := hp _ rfl
          rcases hI.blk k _ (hget_some hg (by simp)) with ⟨ad, _, hxs⟩ | ⟨g, cap, cur, hβ, hz, hB, hcell, hlc, hcm, hcs, hd⟩
          · subst hxs
            simp at h3
            omega
          · have hv := hx.1
            rw [hβ] at hv
            simp only [Option.some.injEq] at hv
            subst hv
            obtain ⟨hb, _⟩ := sliceBounds_ok (C := C) (w := w) (isSlice := true) (len := xs.length) (cap := cap) hl hh hm he h0 (by cases y <;> simpa [endOf] using h1) (by
              intro n hn; subst hn; simp [endOf] at h2; simp; omega) (by simp) hlc
            simp only [Option.map_none, Option.getD_none] at hb
            have hat : ∀ v' w, (Instr.sliceAt t v' l h' m).run C.P w = (Instr.slice t v' l h' m).run C.P w := by
              intro v' w; simp [Instr.sliceAt, run_underlying hu]
            have hend : (y.map Int.toNat).getD xs.length = (endOf xs.length y).toNat := by cases y <;> simp [endOf]
            rw [hend] at hb
            refine ⟨rfl, rfl, NOk.of_run (v := .slice (some ⟨g, x.toNat * sz, none⟩) ((endOf xs.length y).toNat - x.toNat) (cap - x.toNat)) ?_ ⟨g, xs.length, cap, hβ, h0, h1, h2, rfl⟩⟩
            rw [hat]
            have hne : ¬ cap = x.toNat := by omega
            simp [Instr.slice, run_underlying hu, hb, run_sizeOf hsz, hne, Addr.add_lit]
        · cases hr
      · cases hr
    · cases hr
  · cases hr

theorem slice_ok {t : TypeId} {av : AV} {v : Value} {lo hi mx : Option AV} {l h' m : Option Value} {r : Out} (hI : InvH C.P B w0 Ψ β h w) (hx : RelV Ψ β av v) (hl : RelO Ψ β lo l) (hh : RelO Ψ β hi h') (hm : RelO Ψ β mx m)
    (hr : aslice C h t av lo hi mx = some r) (hp : ∀ p, r.need = some p → p) :
    r.heap = h ∧ r.kill = none ∧ NOk C Ψ β w (Instr.sliceAt t v l h' m) r.v := by
  unfold aslice at hr
  split at hr
  · exact sliceArr_ok hx hl hh hm hr
  · rename_i k
    cases hv : C.views with
    | true => rw [hv] at hr; exact sliceV_ok hI hx hl hh hm hr hp
    | false => rw [hv] at hr; exact slice_ok0 hx hl hh hm hr hp
  · exact slice_ok0 hx hl hh hm hr hp

end Go.AM
