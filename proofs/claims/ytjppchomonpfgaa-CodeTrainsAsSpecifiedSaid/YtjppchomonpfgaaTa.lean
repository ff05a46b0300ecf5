import Derived.Test.YtjppchomonpfgaaUp
--@drop
namespace Go.PL
open Go.AM

/-! ### Vectors, plain -/
def sizeS (n : Int) : Int := max n (-n)
def coordOk (m x : Int) : Bool := decide (-m ≤ x) && decide (x ≤ m)
def vecB (m : Int) (v : List Int) : Bool := v.all (coordOk m) && (decide (1 ≤ v.length) && decide (v.length ≤ 32))
def vecOk (v : List Int) : Bool := vecB 1000 v
def diffOk (v : List Int) : Bool := vecB 2000 v
def alikeB (a b : List Int) : Bool := vecOk a && (vecOk b && decide (a.length = b.length))
def subS : List Int → List Int → List Int
  | a :: l, b :: m => (a - b) :: subS l m
  | _, _ => []
def normStep (m n x : Int) : Int := if m = 1 then n + sizeS x else if m = 2 then n + x * x else max n (sizeS x)
def normFrom (m n : Int) (v : List Int) : Int := v.foldl (normStep m) n
def normS (m : Int) (v : List Int) : Int := normFrom m 0 v
def keyS (m : Int) (a b : List Int) : Int := normS m (subS a b)
def dotS : List Int → List Int → Int
  | x :: u, y :: v => x * y + dotS u v
  | _, _ => 0
def small (k : Nat) (c : Int) (v : List Int) : Prop := v.length ≤ k ∧ ∀ x ∈ v, -c ≤ x ∧ x ≤ c
def sgnS (x y : Int) : Int := if x < y then -1 else if y < x then 1 else 0
def lexS : List Int → List Int → Int
  | [], [] => 0
  | [], _ :: _ => -1
  | _ :: _, [] => 1
  | x :: a, y :: b => if x < y then -1 else if y < x then 1 else lexS a b
def cmpS (a b : List Int) : Int := if a.length < b.length then -1 else if b.length < a.length then 1 else lexS a b
def csum (l : List (List Int)) (i : Nat) : Int := (l.map fun v => v.getD i 0).sum
def meanS (l : List (List Int)) : List Int := (List.range (l.getD 0 []).length).map fun i => csum l i / (l.length : Int)
def allB (l : List (List Int)) (most : Int) : Bool := l.all (alikeB (l.getD 0 [])) && (decide (1 ≤ (l.length : Int)) && decide ((l.length : Int) ≤ most))
/-- Rows of so many numbers, not too great. -/
def rows (l : List (List Int)) : Prop := 1 ≤ l.length ∧ l.length ≤ 100 ∧ (l.getD 0 []).length ≤ 64 ∧ ∀ v ∈ l, v.length = (l.getD 0 []).length ∧ ∀ x ∈ v, -4000 ≤ x ∧ x ≤ 4000
end Go.PL
namespace Go.Proofs.Ytjppchomonpfgaa
open Go.AM Go.PL
set_option linter.unusedVariables false

abbrev RD : Ty := .pair L (.pair I .unit)
def sizeSp : FSpec := ⟨[I], [I], fun x => -9223372036854775808 < (x : Int), fun x => sizeS x⟩
def validSp : FSpec := ⟨[L], [.bool], fun _ => True, fun v => vecOk v⟩
def diffSp : FSpec := ⟨[L], [.bool], fun _ => True, fun v => diffOk v⟩
def metricSp : FSpec := ⟨[I], [.bool], fun _ => True, fun m => decide (1 ≤ (m : Int)) && decide ((m : Int) ≤ 3)⟩
def alikeSp : FSpec := ⟨[L, L], [.bool], fun _ => True, fun x => alikeB x.1 x.2⟩
def subSp : FSpec := ⟨[L, L], [L], fun x => small 64 4000 x.1 ∧ small 64 4000 x.2 ∧ (x.1 : List Int).length = (x.2 : List Int).length, fun x => subS x.1 x.2⟩
def dotSp : FSpec := ⟨[L, L], [I], fun x => small 64 8000 x.1 ∧ small 64 8000 x.2 ∧ (x.1 : List Int).length = (x.2 : List Int).length, fun x => dotS x.1 x.2⟩
def normSp : FSpec := ⟨[I, L], [I], fun x => 1 ≤ (x.1 : Int) ∧ (x.1 : Int) ≤ 3 ∧ small 64 8000 x.2, fun x => normS x.1 x.2⟩
def keySp : FSpec := ⟨[I, L, L], [I], fun x => 1 ≤ (x.1 : Int) ∧ (x.1 : Int) ≤ 3 ∧ small 64 4000 x.2.1 ∧ small 64 4000 x.2.2 ∧ (x.2.1 : List Int).length = (x.2.2 : List Int).length, fun x => keyS x.1 x.2.1 x.2.2⟩
def floorSp : FSpec := ⟨[I, I], [I], fun x => -1000000 ≤ (x.1 : Int) ∧ (x.1 : Int) ≤ 1000000 ∧ 1 ≤ (x.2 : Int), fun x => (x.1 : Int) / x.2⟩
def meanSp : FSpec := ⟨[LL], [L], fun l => rows (l : List (List Int)), fun l => meanS l⟩
def cmp1Sp : FSpec := ⟨[I, I], [I], fun _ => True, fun x => sgnS x.1 x.2⟩
def lexSp : FSpec := ⟨[L, L], [I], fun _ => True, fun x => lexS x.1 x.2⟩
def cmpSp : FSpec := ⟨[L, L], [I], fun _ => True, fun x => cmpS x.1 x.2⟩
def same4Sp : FSpec := ⟨[L, L], [.bool], fun _ => True, fun x => decide ((x.1 : List Int) = x.2)⟩
def allSp : FSpec := ⟨[LL, I], [.bool], fun _ => True, fun x => allB x.1 x.2⟩
def cloneG : GSpec := ⟨[L], 3, I, fun v => (v : List Int).length ≤ 1000000, fun v => v⟩
def loopsV (f : FuncId) (r : Nat) : List LA :=
  if Nat.beq f 44 then [.slot 3 I] else
  if Nat.beq f 56 then [.slot 5 I, .slot 6 I] else
  if Nat.beq f 57 then [.gslot 5 3 I, .slot 6 I] else
  if Nat.beq f 46 then [.slot 5 I] else
  if Nat.beq f 30 then [.slot 5 I] else
  if Nat.beq f 64 then [.slot 1 .bool, .slot 11 I] else
  if Nat.beq f 80 then [.slot 1 I, .slot 11 I] else
  if Nat.beq f 72 then [.gslot 5 3 I, .slot 11 I] else
  []
def isOr (f : FuncId) : Bool :=
  false
def hintV (f : FuncId) : Hint := ⟨loopsV f, fun _ => .split, fun t => bif isOr f && Nat.beq t 9 then .force else .split, fun r => bif isOr f && Nat.beq r 3 then 5 else 0⟩

noncomputable def V0 : Ctx := mkctx bs [] [] hintV
noncomputable def V1 : Ctx := mkctx bs [(73, sizeSp), (44, validSp), (57, subSp)
  , (46, cmpSp)
  , (41, validSp)
  ] [
  (60, cloneG)
  ] hintV
noncomputable def V2 : Ctx := mkctx bs [(57, subSp), (56, normSp)
  , (58, alikeSp)
  , (72, subSp), (71, normSp)
  ] [] hintV

theorem size_nf (n : Int) : fnwp V0 5 73 sizeSp n = ((decide (n < (0 : Int)) = true → isI64 ((0 : Int) - n) ∧ (0 : Int) - n = sizeS n) ∧ (decide (n < (0 : Int)) = false → n = sizeS
  n)) := by kernel_rfl
theorem rValid_nf (v : List Int) : fnwp V0 5 44 validSp v = (∃ (I : Int → Prop), ∃ (μ : Int → Nat), I (0 : Int) ∧ ∀ (x : Int), I x → (decide (x < (↑v.length : Int)) = true → ((0 :
  Int) ≤ x ∧ x < (↑v.length : Int)) ∧ (decide (v.getD x.toNat (0 : Int) < (-1000 : Int)) = true → false = vecOk v) ∧ (decide (v.getD x.toNat (0 : Int) < (-1000 : Int)) = false →
  ((0 : Int) ≤ x ∧ x < (↑v.length : Int)) ∧ (decide ((1000 : Int) < v.getD x.toNat (0 : Int)) = true → false = vecOk v) ∧ (decide ((1000 : Int) < v.getD x.toNat (0 : Int)) = false
  → isI64 (x + (1 : Int)) ∧ I (x + (1 : Int)) ∧ μ (x + (1 : Int)) < μ x))) ∧ (decide (x < (↑v.length : Int)) = false → (decide ((1 : Int) ≤ (↑v.length : Int)) = true → decide
  ((↑v.length : Int) ≤ (32 : Int)) = vecOk v) ∧ (decide ((1 : Int) ≤ (↑v.length : Int)) = false → false = vecOk v))) := by kernel_rfl
theorem rMetric_nf (m : Int) : fnwp V0 5 34 metricSp m = ((decide ((1 : Int) ≤ m) = true → decide (m ≤ (3 : Int)) = (decide ((1 : Int) ≤ m) && decide (m ≤ (3 : Int)))) ∧ (decide
  ((1 : Int) ≤ m) = false → false = (decide ((1 : Int) ≤ m) && decide (m ≤ (3 : Int))))) := by kernel_rfl
theorem rAlike_nf (a b : List Int) : fnwp V1 5 58 alikeSp (a, b) = (True ∧ (vecOk a = true → True ∧ (vecOk b = true → decide ((↑a.length : Int) = (↑b.length : Int)) = alikeB a b) ∧
  (vecOk b = false → false = alikeB a b)) ∧ (vecOk a = false → false = alikeB a b)) := by kernel_rfl
theorem rSub_nf (a b : List Int) : fnwp V0 5 57 subSp (a, b) = (∃ (I : List Int × Int → Prop), ∃ (μ : List Int × Int → Nat), I ([], (0 : Int)) ∧ ∀ (x : List Int × Int), I x →
  (decide (x.snd < (↑a.length : Int)) = true → ((0 : Int) ≤ x.snd ∧ x.snd < (↑a.length : Int)) ∧ ((0 : Int) ≤ x.snd ∧ x.snd < (↑b.length : Int)) ∧ isI64 (a.getD x.snd.toNat (0 :
  Int) - b.getD x.snd.toNat (0 : Int)) ∧ roomP V0 (3 : Nat) (x.fst.length + [a.getD x.snd.toNat (0 : Int) - b.getD x.snd.toNat (0 : Int)].length) ∧ isI64 (x.snd + (1 : Int)) ∧ I
  (x.fst ++ [a.getD x.snd.toNat (0 : Int) - b.getD x.snd.toNat (0 : Int)], x.snd + (1 : Int)) ∧ μ (x.fst ++ [a.getD x.snd.toNat (0 : Int) - b.getD x.snd.toNat (0 : Int)], x.snd +
  (1 : Int)) < μ x) ∧ (decide (x.snd < (↑a.length : Int)) = false → x.fst = subS a b)) := by kernel_rfl
theorem rNorm_nf (m : Int) (v : List Int) : fnwp V1 5 56 normSp (m, v) = (∃ (I : Int × Int → Prop), ∃ (μ : Int × Int → Nat), I ((0 : Int), (0 : Int)) ∧ ∀ (x : Int × Int), I x →
  (decide (x.snd < (↑v.length : Int)) = true → (decide (m = (1 : Int)) = true → ((0 : Int) ≤ x.snd ∧ x.snd < (↑v.length : Int)) ∧ (-9223372036854775808 : Int) < v.getD x.snd.toNat
  (0 : Int) ∧ isI64 (x.fst + sizeS (v.getD x.snd.toNat (0 : Int))) ∧ isI64 (x.snd + (1 : Int)) ∧ I (x.fst + sizeS (v.getD x.snd.toNat (0 : Int)), x.snd + (1 : Int)) ∧ μ (x.fst +
  sizeS (v.getD x.snd.toNat (0 : Int)), x.snd + (1 : Int)) < μ x) ∧ (decide (m = (1 : Int)) = false → (decide (m = (2 : Int)) = true → ((0 : Int) ≤ x.snd ∧ x.snd < (↑v.length :
  Int)) ∧ ((0 : Int) ≤ x.snd ∧ x.snd < (↑v.length : Int)) ∧ isI64 (v.getD x.snd.toNat (0 : Int) * v.getD x.snd.toNat (0 : Int)) ∧ isI64 (x.fst + v.getD x.snd.toNat (0 : Int) *
  v.getD x.snd.toNat (0 : Int)) ∧ isI64 (x.snd + (1 : Int)) ∧ I (x.fst + v.getD x.snd.toNat (0 : Int) * v.getD x.snd.toNat (0 : Int), x.snd + (1 : Int)) ∧ μ (x.fst + v.getD
  x.snd.toNat (0 : Int) * v.getD x.snd.toNat (0 : Int), x.snd + (1 : Int)) < μ x) ∧ (decide (m = (2 : Int)) = false → ((0 : Int) ≤ x.snd ∧ x.snd < (↑v.length : Int)) ∧
  (-9223372036854775808 : Int) < v.getD x.snd.toNat (0 : Int) ∧ isI64 (x.snd + (1 : Int)) ∧ I (max x.fst (sizeS (v.getD x.snd.toNat (0 : Int))), x.snd + (1 : Int)) ∧ μ (max x.fst
  (sizeS (v.getD x.snd.toNat (0 : Int))), x.snd + (1 : Int)) < μ x))) ∧ (decide (x.snd < (↑v.length : Int)) = false → x.fst = normS m v)) := by kernel_rfl
theorem rKey_nf (m : Int) (a b : List Int) : fnwp V2 5 29 keySp (m, a, b) = ((small (64 : Nat) (4000 : Int) a ∧ small (64 : Nat) (4000 : Int) b ∧ a.length = b.length) ∧ ((1 : Int)
  ≤ m ∧ m ≤ (3 : Int) ∧ small (64 : Nat) (8000 : Int) (subS a b)) ∧ normS m (subS a b) = keyS m a b) := by kernel_rfl
theorem rCompare_nf (a b : List Int) : fnwp V0 5 46 cmpSp (a, b) = ((decide ((↑a.length : Int) < (↑b.length : Int)) = true → (-1 : Int) = cmpS a b) ∧ (decide ((↑a.length : Int) <
  (↑b.length : Int)) = false → (decide ((↑b.length : Int) < (↑a.length : Int)) = true → (1 : Int) = cmpS a b) ∧ (decide ((↑b.length : Int) < (↑a.length : Int)) = false → ∃ (I : Int
  → Prop), ∃ (μ : Int → Nat), I (0 : Int) ∧ ∀ (x : Int), I x → (decide (x < (↑a.length : Int)) = true → ((0 : Int) ≤ x ∧ x < (↑a.length : Int)) ∧ ((0 : Int) ≤ x ∧ x < (↑b.length :
  Int)) ∧ (decide (a.getD x.toNat (0 : Int) < b.getD x.toNat (0 : Int)) = true → (-1 : Int) = cmpS a b) ∧ (decide (a.getD x.toNat (0 : Int) < b.getD x.toNat (0 : Int)) = false →
  ((0 : Int) ≤ x ∧ x < (↑a.length : Int)) ∧ ((0 : Int) ≤ x ∧ x < (↑b.length : Int)) ∧ (decide (b.getD x.toNat (0 : Int) < a.getD x.toNat (0 : Int)) = true → (1 : Int) = cmpS a b) ∧
  (decide (b.getD x.toNat (0 : Int) < a.getD x.toNat (0 : Int)) = false → isI64 (x + (1 : Int)) ∧ I (x + (1 : Int)) ∧ μ (x + (1 : Int)) < μ x))) ∧ (decide (x < (↑a.length : Int)) =
  false → (0 : Int) = cmpS a b)))) := by kernel_rfl
theorem rSame_nf (a b : List Int) : fnwp V1 5 17 same4Sp (a, b) = (True ∧ decide (cmpS a b = (0 : Int)) = decide (a = b)) := by kernel_rfl
theorem rAll_nf (l : List (List Int)) (n : Int) : fnwp V2 5 30 allSp (l, n) = (∃ (I : Int → Prop), ∃ (μ : Int → Nat), I (0 : Int) ∧ ∀ (x : Int), I x → (decide (x < (↑l.length :
  Int)) = true → ((0 : Int) ≤ (0 : Int) ∧ (0 : Int) < (↑l.length : Int)) ∧ ((0 : Int) ≤ x ∧ x < (↑l.length : Int)) ∧ True ∧ ((!alikeB (l.getD (0 : Nat) []) (l.getD x.toNat [])) =
  true → false = allB l n) ∧ ((!alikeB (l.getD (0 : Nat) []) (l.getD x.toNat [])) = false → isI64 (x + (1 : Int)) ∧ I (x + (1 : Int)) ∧ μ (x + (1 : Int)) < μ x)) ∧ (decide (x <
  (↑l.length : Int)) = false → (decide ((1 : Int) ≤ (↑l.length : Int)) = true → decide ((↑l.length : Int) ≤ n) = allB l n) ∧ (decide ((1 : Int) ≤ (↑l.length : Int)) = false → false
  = allB l n))) := by kernel_rfl
theorem valid_nf (v : List Int) : fnwp V0 5 41 validSp v = (∃ (I : Bool × Int → Prop), ∃ (μ : Bool × Int → Nat), I (true, (0 : Int)) ∧ ∀ (x : Bool × Int), I x → (decide (x.snd <
  (↑v.length : Int)) = true → ((0 : Int) ≤ x.snd ∧ x.snd < (↑v.length : Int)) ∧ (x.fst = true → (decide ((-1000 : Int) ≤ v.getD x.snd.toNat (0 : Int)) = true → isI64 (x.snd + (1 :
  Int)) ∧ I (decide (v.getD x.snd.toNat (0 : Int) ≤ (1000 : Int)), x.snd + (1 : Int)) ∧ μ (decide (v.getD x.snd.toNat (0 : Int) ≤ (1000 : Int)), x.snd + (1 : Int)) < μ x) ∧ (decide
  ((-1000 : Int) ≤ v.getD x.snd.toNat (0 : Int)) = false → isI64 (x.snd + (1 : Int)) ∧ I (false, x.snd + (1 : Int)) ∧ μ (false, x.snd + (1 : Int)) < μ x)) ∧ (x.fst = false → isI64
  (x.snd + (1 : Int)) ∧ I (false, x.snd + (1 : Int)) ∧ μ (false, x.snd + (1 : Int)) < μ x)) ∧ (decide (x.snd < (↑v.length : Int)) = false → (x.fst = true → (decide ((1 : Int) ≤
  (↑v.length : Int)) = true → decide ((↑v.length : Int) ≤ (32 : Int)) = vecOk v) ∧ (decide ((1 : Int) ≤ (↑v.length : Int)) = false → false = vecOk v)) ∧ (x.fst = false → false =
  vecOk v))) := by kernel_rfl
theorem alike_nf (a b : List Int) : fnwp V1 5 74 alikeSp (a, b) = ((decide ((↑a.length : Int) = (↑b.length : Int)) = true → True ∧ (vecOk a = true → True ∧ vecOk b = alikeB a b) ∧
  (vecOk a = false → false = alikeB a b)) ∧ (decide ((↑a.length : Int) = (↑b.length : Int)) = false → false = alikeB a b)) := by kernel_rfl
theorem clone_nf (v : List Int) : fnwpG V0 5 60 cloneG v = (∀ (b : Bool), (b = true → v = []) → (b = true → [] = v) ∧ (b = false → roomP V0 (3 : Nat) v.length ∧ v = v)) := by
  kernel_rfl
theorem sub_nf (a b : List Int) : fnwp V1 5 72 subSp (a, b) = (a.length ≤ (1000000 : Nat) ∧ ∃ (I : List Int × Int → Prop), ∃ (μ : List Int × Int → Nat), I (a, (0 : Int)) ∧ ∀ (x :
  List Int × Int), I x → (decide (x.snd < (↑a.length : Int)) = true → ((0 : Int) ≤ x.snd ∧ x.snd < (↑x.fst.length : Int)) ∧ ((0 : Int) ≤ x.snd ∧ x.snd < (↑b.length : Int)) ∧ isI64
  (x.fst.getD x.snd.toNat (0 : Int) - b.getD x.snd.toNat (0 : Int)) ∧ ((0 : Int) ≤ x.snd ∧ x.snd < (↑x.fst.length : Int)) ∧ isI64 (x.snd + (1 : Int)) ∧ I (x.fst.set x.snd.toNat
  (x.fst.getD x.snd.toNat (0 : Int) - b.getD x.snd.toNat (0 : Int)), x.snd + (1 : Int)) ∧ μ (x.fst.set x.snd.toNat (x.fst.getD x.snd.toNat (0 : Int) - b.getD x.snd.toNat (0 :
  Int)), x.snd + (1 : Int)) < μ x) ∧ (decide (x.snd < (↑a.length : Int)) = false → x.fst = subS a b)) := by kernel_rfl
theorem norm_nf (m : Int) (v : List Int) : fnwp V0 5 71 normSp (m, v) = ((m = (1 : Int) → ∃ (I : Int × Int → Prop), ∃ (μ : Int × Int → Nat), I ((0 : Int), (0 : Int)) ∧ ∀ (x : Int ×
  Int), I x → (decide (x.snd < (↑v.length : Int)) = true → ((0 : Int) ≤ x.snd ∧ x.snd < (↑v.length : Int)) ∧ isI64 ((0 : Int) - v.getD x.snd.toNat (0 : Int)) ∧ isI64 (x.fst + max
  (v.getD x.snd.toNat (0 : Int)) ((0 : Int) - v.getD x.snd.toNat (0 : Int))) ∧ isI64 (x.snd + (1 : Int)) ∧ I (x.fst + max (v.getD x.snd.toNat (0 : Int)) ((0 : Int) - v.getD
  x.snd.toNat (0 : Int)), x.snd + (1 : Int)) ∧ μ (x.fst + max (v.getD x.snd.toNat (0 : Int)) ((0 : Int) - v.getD x.snd.toNat (0 : Int)), x.snd + (1 : Int)) < μ x) ∧ (decide (x.snd
  < (↑v.length : Int)) = false → x.fst = normS m v)) ∧ (¬m = (1 : Int) → (m = (2 : Int) → ∃ (I : Int × Int → Prop), ∃ (μ : Int × Int → Nat), I ((0 : Int), (0 : Int)) ∧ ∀ (x : Int ×
  Int), I x → (decide (x.snd < (↑v.length : Int)) = true → ((0 : Int) ≤ x.snd ∧ x.snd < (↑v.length : Int)) ∧ isI64 (v.getD x.snd.toNat (0 : Int) * v.getD x.snd.toNat (0 : Int)) ∧
  isI64 (x.fst + v.getD x.snd.toNat (0 : Int) * v.getD x.snd.toNat (0 : Int)) ∧ isI64 (x.snd + (1 : Int)) ∧ I (x.fst + v.getD x.snd.toNat (0 : Int) * v.getD x.snd.toNat (0 : Int),
  x.snd + (1 : Int)) ∧ μ (x.fst + v.getD x.snd.toNat (0 : Int) * v.getD x.snd.toNat (0 : Int), x.snd + (1 : Int)) < μ x) ∧ (decide (x.snd < (↑v.length : Int)) = false → x.fst =
  normS m v)) ∧ (¬m = (2 : Int) → (m = (3 : Int) → ∃ (I : Int × Int → Prop), ∃ (μ : Int × Int → Nat), I ((0 : Int), (0 : Int)) ∧ ∀ (x : Int × Int), I x → (decide (x.snd <
  (↑v.length : Int)) = true → ((0 : Int) ≤ x.snd ∧ x.snd < (↑v.length : Int)) ∧ isI64 ((0 : Int) - v.getD x.snd.toNat (0 : Int)) ∧ isI64 (x.snd + (1 : Int)) ∧ I (max (max x.fst
  (v.getD x.snd.toNat (0 : Int))) ((0 : Int) - v.getD x.snd.toNat (0 : Int)), x.snd + (1 : Int)) ∧ μ (max (max x.fst (v.getD x.snd.toNat (0 : Int))) ((0 : Int) - v.getD x.snd.toNat
  (0 : Int)), x.snd + (1 : Int)) < μ x) ∧ (decide (x.snd < (↑v.length : Int)) = false → x.fst = normS m v)) ∧ (¬m = (3 : Int) → ∃ (I : Int × Int → Prop), ∃ (μ : Int × Int → Nat), I
  ((0 : Int), (0 : Int)) ∧ ∀ (x : Int × Int), I x → (decide (x.snd < (↑v.length : Int)) = true → ((0 : Int) ≤ x.snd ∧ x.snd < (↑v.length : Int)) ∧ False) ∧ (decide (x.snd <
  (↑v.length : Int)) = false → x.fst = normS m v))))) := by kernel_rfl
theorem key_nf (m : Int) (a b : List Int) : fnwp V2 5 55 keySp (m, a, b) = ((small (64 : Nat) (4000 : Int) a ∧ small (64 : Nat) (4000 : Int) b ∧ a.length = b.length) ∧ ((1 : Int) ≤
  m ∧ m ≤ (3 : Int) ∧ small (64 : Nat) (8000 : Int) (subS a b)) ∧ normS m (subS a b) = keyS m a b) := by kernel_rfl
end Go.Proofs.Ytjppchomonpfgaa
