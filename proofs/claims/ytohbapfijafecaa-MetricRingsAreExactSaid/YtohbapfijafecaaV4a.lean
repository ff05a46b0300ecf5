import Derived.Test.YtohbapfijafecaaProg
import Derived.Test.YtohbapfijafecaaPl
import Derived.KernelRfl
namespace Go.Proofs.Ytohbapfijafecaa
open Go.AM Go.PL
set_option linter.unusedVariables false

abbrev I : Ty := .int .i64
abbrev L : Ty := .arr I

/-! ### antiquaryref04: the specification of vectors -/
def sizeS (n : Int) : Int := max n (-n)
def coordOk (m x : Int) : Bool := decide (-m ≤ x) && decide (x ≤ m)
def vecB (m : Int) (v : List Int) : Bool := v.all (coordOk m) && (decide (1 ≤ v.length) && decide (v.length ≤ 32))
def vecOk (v : List Int) : Bool := vecB 1000 v
def diffOk (v : List Int) : Bool := vecB 2000 v
def alikeB (a b : List Int) : Bool := vecOk a && (vecOk b && decide (a.length = b.length))
def subS : List Int → List Int → List Int
  | a :: l, b :: m => (a - b) :: subS l m
  | _, _ => []
def normStep (m n x : Int) : Int := if m = 1 then n + sizeS x else if m = 2 then n + x * x else max n (sizeS x)
def normFrom (m n : Int) (v : List Int) : Int := v.foldl (normStep m) n
def normS (m : Int) (v : List Int) : Int := normFrom m 0 v
def keyS (m : Int) (a b : List Int) : Int := normS m (subS a b)
def small (k : Nat) (c : Int) (v : List Int) : Prop := v.length ≤ k ∧ ∀ x ∈ v, -c ≤ x ∧ x ≤ c

def sizeSp : FSpec := ⟨[I], [I], fun x => -9223372036854775808 < (x : Int), fun x => sizeS x⟩
def rValidSp : FSpec := ⟨[L], [.bool], fun _ => True, fun v => vecOk v⟩
def rAlikeSp : FSpec := ⟨[L, L], [.bool], fun _ => True, fun x => alikeB x.1 x.2⟩
def rSubSp : FSpec := ⟨[L, L], [L], fun x => small 64 4000 x.1 ∧ small 64 4000 x.2 ∧ (x.1 : List Int).length = (x.2 : List Int).length, fun x => subS x.1 x.2⟩
def rNormSp : FSpec := ⟨[I, L], [I], fun x => small 64 8000 x.2, fun x => normS x.1 x.2⟩
def rKeySp : FSpec := ⟨[I, L, L], [I], fun x => small 64 4000 x.2.1 ∧ small 64 4000 x.2.2 ∧ (x.2.1 : List Int).length = (x.2.2 : List Int).length, fun x => keyS x.1 x.2.1 x.2.2⟩

def tyV (t : TypeId) : Option Ty := if t = 3 then some I else none
def loopsV (f : FuncId) (_ : Nat) : List LA :=
  if f = 35 then [.slot 3 I]
  else if f = 36 then [.slot 5 I, .slot 6 I]
  else if f = 37 then [.gslot 5 3 I, .slot 6 I]
  else []
noncomputable def V0 : Ctx := ctx Try.prog [] loopsV tyV
noncomputable def V1 : Ctx := ctx Try.prog [(41, sizeSp), (35, rValidSp), (37, rSubSp)] loopsV tyV
noncomputable def V2 : Ctx := ctx Try.prog [(37, rSubSp), (36, rNormSp)] loopsV tyV

theorem size_nf (n : Int) : fnwp V0 5 41 sizeSp n = ((decide (n < (0 : Int)) = true → isI64 ((0 : Int) - n) ∧ (0 : Int) - n = sizeS n) ∧ (decide (n < (0 : Int)) = false → n = sizeS
n)) := by kernel_rfl
theorem rValid_nf (v : List Int) : fnwp V0 5 35 rValidSp v = (∃ (I : Int → Prop), ∃ (μ : Int → Nat), I (0 : Int) ∧ ∀ (x : Int), I x → (decide (x < (↑v.length : Int)) = true → ((0 :
Int) ≤ x ∧ x < (↑v.length : Int)) ∧ (decide (v.getD x.toNat (0 : Int) < (-1000 : Int)) = true → false = vecOk v) ∧ (decide (v.getD x.toNat (0 : Int) < (-1000 : Int)) = false → ((0
: Int) ≤ x ∧ x < (↑v.length : Int)) ∧ (decide ((1000 : Int) < v.getD x.toNat (0 : Int)) = true → false = vecOk v) ∧ (decide ((1000 : Int) < v.getD x.toNat (0 : Int)) = false →
isI64 (x + (1 : Int)) ∧ I (x + (1 : Int)) ∧ μ (x + (1 : Int)) < μ x))) ∧ (decide (x < (↑v.length : Int)) = false → (decide ((1 : Int) ≤ (↑v.length : Int)) = true → decide
((↑v.length : Int) ≤ (32 : Int)) = vecOk v) ∧ (decide ((1 : Int) ≤ (↑v.length : Int)) = false → false = vecOk v))) := by kernel_rfl
theorem rAlike_nf (a b : List Int) : fnwp V1 5 26 rAlikeSp (a, b) = (True ∧ (vecOk a = true → True ∧ (vecOk b = true → decide ((↑a.length : Int) = (↑b.length : Int)) = alikeB a b)
∧ (vecOk b = false → false = alikeB a b)) ∧ (vecOk a = false → false = alikeB a b)) := by kernel_rfl
theorem rSub_nf (a b : List Int) : fnwp V0 5 37 rSubSp (a, b) = (∃ (I : List Int × Int → Prop), ∃ (μ : List Int × Int → Nat), I ([], (0 : Int)) ∧ ∀ (x : List Int × Int), I x →
(decide (x.snd < (↑a.length : Int)) = true → ((0 : Int) ≤ x.snd ∧ x.snd < (↑a.length : Int)) ∧ ((0 : Int) ≤ x.snd ∧ x.snd < (↑b.length : Int)) ∧ isI64 (a.getD x.snd.toNat (0 : Int)
- b.getD x.snd.toNat (0 : Int)) ∧ roomP V0 (3 : Nat) (x.fst.length + [a.getD x.snd.toNat (0 : Int) - b.getD x.snd.toNat (0 : Int)].length) ∧ isI64 (x.snd + (1 : Int)) ∧ I (x.fst ++
[a.getD x.snd.toNat (0 : Int) - b.getD x.snd.toNat (0 : Int)], x.snd + (1 : Int)) ∧ μ (x.fst ++ [a.getD x.snd.toNat (0 : Int) - b.getD x.snd.toNat (0 : Int)], x.snd + (1 : Int)) <
μ x) ∧ (decide (x.snd < (↑a.length : Int)) = false → x.fst = subS a b)) := by kernel_rfl
theorem rNorm_nf (m : Int) (v : List Int) : fnwp V1 5 36 rNormSp (m, v) = (∃ (I : Int × Int → Prop), ∃ (μ : Int × Int → Nat), I ((0 : Int), (0 : Int)) ∧ ∀ (x : Int × Int), I x →
(decide (x.snd < (↑v.length : Int)) = true → (decide (m = (1 : Int)) = true → ((0 : Int) ≤ x.snd ∧ x.snd < (↑v.length : Int)) ∧ (-9223372036854775808 : Int) < v.getD x.snd.toNat (0
: Int) ∧ isI64 (x.fst + sizeS (v.getD x.snd.toNat (0 : Int))) ∧ isI64 (x.snd + (1 : Int)) ∧ I (x.fst + sizeS (v.getD x.snd.toNat (0 : Int)), x.snd + (1 : Int)) ∧ μ (x.fst + sizeS
(v.getD x.snd.toNat (0 : Int)), x.snd + (1 : Int)) < μ x) ∧ (decide (m = (1 : Int)) = false → (decide (m = (2 : Int)) = true → ((0 : Int) ≤ x.snd ∧ x.snd < (↑v.length : Int)) ∧ ((0
: Int) ≤ x.snd ∧ x.snd < (↑v.length : Int)) ∧ isI64 (v.getD x.snd.toNat (0 : Int) * v.getD x.snd.toNat (0 : Int)) ∧ isI64 (x.fst + v.getD x.snd.toNat (0 : Int) * v.getD x.snd.toNat
(0 : Int)) ∧ isI64 (x.snd + (1 : Int)) ∧ I (x.fst + v.getD x.snd.toNat (0 : Int) * v.getD x.snd.toNat (0 : Int), x.snd + (1 : Int)) ∧ μ (x.fst + v.getD x.snd.toNat (0 : Int) *
v.getD x.snd.toNat (0 : Int), x.snd + (1 : Int)) < μ x) ∧ (decide (m = (2 : Int)) = false → ((0 : Int) ≤ x.snd ∧ x.snd < (↑v.length : Int)) ∧ (-9223372036854775808 : Int) < v.getD
x.snd.toNat (0 : Int) ∧ isI64 (x.snd + (1 : Int)) ∧ I (max x.fst (sizeS (v.getD x.snd.toNat (0 : Int))), x.snd + (1 : Int)) ∧ μ (max x.fst (sizeS (v.getD x.snd.toNat (0 : Int))),
x.snd + (1 : Int)) < μ x))) ∧ (decide (x.snd < (↑v.length : Int)) = false → x.fst = normS m v)) := by kernel_rfl
theorem rKey_nf (m : Int) (a b : List Int) : fnwp V2 5 28 rKeySp (m, a, b) = ((small (64 : Nat) (4000 : Int) a ∧ small (64 : Nat) (4000 : Int) b ∧ a.length = b.length) ∧ small (64
: Nat) (8000 : Int) (subS a b) ∧ normS m (subS a b) = keyS m a b) := by kernel_rfl
end Go.Proofs.Ytohbapfijafecaa
