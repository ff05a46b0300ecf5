import Derived.Test.YtmimchmdikjilaaUp
--@drop
namespace Go.PL
open Go.AM

/-! ### Vectors, plain -/
def sizeS (n : Int) : Int := max n (-n)
def coordOk (m x : Int) : Bool := decide (-m ≤ x) && decide (x ≤ m)
def vecB (m : Int) (v : List Int) : Bool := v.all (coordOk m) && (decide (1 ≤ v.length) && decide (v.length ≤ 32))
def vecOk (v : List Int) : Bool := vecB 1000 v
def diffOk (v : List Int) : Bool := vecB 2000 v
def alikeB (a b : List Int) : Bool := vecOk a && (vecOk b && decide (a.length = b.length))
def subS : List Int → List Int → List Int
  | a :: l, b :: m => (a - b) :: subS l m
  | _, _ => []
def normStep (m n x : Int) : Int := if m = 1 then n + sizeS x else if m = 2 then n + x * x else max n (sizeS x)
def normFrom (m n : Int) (v : List Int) : Int := v.foldl (normStep m) n
def normS (m : Int) (v : List Int) : Int := normFrom m 0 v
def keyS (m : Int) (a b : List Int) : Int := normS m (subS a b)
def dotS : List Int → List Int → Int
  | x :: u, y :: v => x * y + dotS u v
  | _, _ => 0
def small (k : Nat) (c : Int) (v : List Int) : Prop := v.length ≤ k ∧ ∀ x ∈ v, -c ≤ x ∧ x ≤ c
def sgnS (x y : Int) : Int := if x < y then -1 else if y < x then 1 else 0
def lexS : List Int → List Int → Int
  | [], [] => 0
  | [], _ :: _ => -1
  | _ :: _, [] => 1
  | x :: a, y :: b => if x < y then -1 else if y < x then 1 else lexS a b
def cmpS (a b : List Int) : Int := if a.length < b.length then -1 else if b.length < a.length then 1 else lexS a b
def csum (l : List (List Int)) (i : Nat) : Int := (l.map fun v => v.getD i 0).sum
def meanS (l : List (List Int)) : List Int := (List.range (l.getD 0 []).length).map fun i => csum l i / (l.length : Int)
def allB (l : List (List Int)) (most : Int) : Bool := l.all (alikeB (l.getD 0 [])) && (decide (1 ≤ (l.length : Int)) && decide ((l.length : Int) ≤ most))
/-- Rows of so many numbers, not too great. -/
def rows (l : List (List Int)) : Prop := 1 ≤ l.length ∧ l.length ≤ 100 ∧ (l.getD 0 []).length ≤ 64 ∧ ∀ v ∈ l, v.length = (l.getD 0 []).length ∧ ∀ x ∈ v, -4000 ≤ x ∧ x ≤ 4000
end Go.PL
namespace Go.Proofs.Ytmimchmdikjilaa
open Go.AM Go.PL
set_option linter.unusedVariables false

abbrev RD : Ty := .pair L (.pair I .unit)
def sizeSp : FSpec := ⟨[I], [I], fun x => -9223372036854775808 < (x : Int), fun x => sizeS x⟩
def validSp : FSpec := ⟨[L], [.bool], fun _ => True, fun v => vecOk v⟩
def diffSp : FSpec := ⟨[L], [.bool], fun _ => True, fun v => diffOk v⟩
def metricSp : FSpec := ⟨[I], [.bool], fun _ => True, fun m => decide (1 ≤ (m : Int)) && decide ((m : Int) ≤ 3)⟩
def alikeSp : FSpec := ⟨[L, L], [.bool], fun _ => True, fun x => alikeB x.1 x.2⟩
def subSp : FSpec := ⟨[L, L], [L], fun x => small 64 4000 x.1 ∧ small 64 4000 x.2 ∧ (x.1 : List Int).length = (x.2 : List Int).length, fun x => subS x.1 x.2⟩
def dotSp : FSpec := ⟨[L, L], [I], fun x => small 64 8000 x.1 ∧ small 64 8000 x.2 ∧ (x.1 : List Int).length = (x.2 : List Int).length, fun x => dotS x.1 x.2⟩
def normSp : FSpec := ⟨[I, L], [I], fun x => 1 ≤ (x.1 : Int) ∧ (x.1 : Int) ≤ 3 ∧ small 64 8000 x.2, fun x => normS x.1 x.2⟩
def keySp : FSpec := ⟨[I, L, L], [I], fun x => 1 ≤ (x.1 : Int) ∧ (x.1 : Int) ≤ 3 ∧ small 64 4000 x.2.1 ∧ small 64 4000 x.2.2 ∧ (x.2.1 : List Int).length = (x.2.2 : List Int).length, fun x => keyS x.1 x.2.1 x.2.2⟩
def floorSp : FSpec := ⟨[I, I], [I], fun x => -1000000 ≤ (x.1 : Int) ∧ (x.1 : Int) ≤ 1000000 ∧ 1 ≤ (x.2 : Int), fun x => (x.1 : Int) / x.2⟩
def meanSp : FSpec := ⟨[LL], [L], fun l => rows (l : List (List Int)), fun l => meanS l⟩
def cmp1Sp : FSpec := ⟨[I, I], [I], fun _ => True, fun x => sgnS x.1 x.2⟩
def lexSp : FSpec := ⟨[L, L], [I], fun _ => True, fun x => lexS x.1 x.2⟩
def cmpSp : FSpec := ⟨[L, L], [I], fun _ => True, fun x => cmpS x.1 x.2⟩
def same4Sp : FSpec := ⟨[L, L], [.bool], fun _ => True, fun x => decide ((x.1 : List Int) = x.2)⟩
def allSp : FSpec := ⟨[LL, I], [.bool], fun _ => True, fun x => allB x.1 x.2⟩
def cloneG : GSpec := ⟨[L], 3, I, fun v => (v : List Int).length ≤ 1000000, fun v => v⟩
def loopsV (f : FuncId) (r : Nat) : List LA :=
  []
def isOr (f : FuncId) : Bool :=
  Nat.beq f 56 ||
  false
def hintV (f : FuncId) : Hint := ⟨loopsV f, fun _ => .split, fun t => bif isOr f && Nat.beq t 9 then .force else .split, fun r => bif isOr f && Nat.beq r 3 then 5 else 0⟩

noncomputable def V0 : Ctx := mkctx bs [] [] hintV
theorem cmp1_nf (a b : Int) : fnwp V0 5 57 cmp1Sp (a, b) = (((!decide (a = a)) = true → ((!decide (b = b)) = true → (0 : Int) = sgnS a b) ∧ ((!decide (b = b)) = false → (-1 : Int)
  = sgnS a b)) ∧ ((!decide (a = a)) = false → ((!decide (b = b)) = true → (1 : Int) = sgnS a b) ∧ ((!decide (b = b)) = false → (decide (a < b) = true → (-1 : Int) = sgnS a b) ∧
  (decide (a < b) = false → (decide (b < a) = true → (1 : Int) = sgnS a b) ∧ (decide (b < a) = false → (0 : Int) = sgnS a b))))) := by kernel_rfl
end Go.Proofs.Ytmimchmdikjilaa
