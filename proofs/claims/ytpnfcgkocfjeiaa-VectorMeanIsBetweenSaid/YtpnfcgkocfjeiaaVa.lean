import Derived.Test.YtpnfcgkocfjeiaaWj
--@drop
namespace Go.PL
open Go.AM

/-! ### Vectors, plain -/
def sizeS (n : Int) : Int := max n (-n)
def coordOk (m x : Int) : Bool := decide (-m ≤ x) && decide (x ≤ m)
def vecB (m : Int) (v : List Int) : Bool := v.all (coordOk m) && (decide (1 ≤ v.length) && decide (v.length ≤ 32))
def vecOk (v : List Int) : Bool := vecB 1000 v
def diffOk (v : List Int) : Bool := vecB 2000 v
def alikeB (a b : List Int) : Bool := vecOk a && (vecOk b && decide (a.length = b.length))
def subS : List Int → List Int → List Int
  | a :: l, b :: m => (a - b) :: subS l m
  | _, _ => []
def normStep (m n x : Int) : Int := if m = 1 then n + sizeS x else if m = 2 then n + x * x else max n (sizeS x)
def normFrom (m n : Int) (v : List Int) : Int := v.foldl (normStep m) n
def normS (m : Int) (v : List Int) : Int := normFrom m 0 v
def keyS (m : Int) (a b : List Int) : Int := normS m (subS a b)
def dotS : List Int → List Int → Int
  | x :: u, y :: v => x * y + dotS u v
  | _, _ => 0
def small (k : Nat) (c : Int) (v : List Int) : Prop := v.length ≤ k ∧ ∀ x ∈ v, -c ≤ x ∧ x ≤ c
def sgnS (x y : Int) : Int := if x < y then -1 else if y < x then 1 else 0
def lexS : List Int → List Int → Int
  | [], [] => 0
  | [], _ :: _ => -1
  | _ :: _, [] => 1
  | x :: a, y :: b => if x < y then -1 else if y < x then 1 else lexS a b
def cmpS (a b : List Int) : Int := if a.length < b.length then -1 else if b.length < a.length then 1 else lexS a b
def csum (l : List (List Int)) (i : Nat) : Int := (l.map fun v => v.getD i 0).sum
def meanS (l : List (List Int)) : List Int := (List.range (l.getD 0 []).length).map fun i => csum l i / (l.length : Int)
def allB (l : List (List Int)) (most : Int) : Bool := l.all (alikeB (l.getD 0 [])) && (decide (1 ≤ (l.length : Int)) && decide ((l.length : Int) ≤ most))
/-- Rows of so many numbers, not too great. -/
def rows (l : List (List Int)) : Prop := 1 ≤ l.length ∧ l.length ≤ 100 ∧ (l.getD 0 []).length ≤ 64 ∧ ∀ v ∈ l, v.length = (l.getD 0 []).length ∧ ∀ x ∈ v, -4000 ≤ x ∧ x ≤ 4000
def readS (b : List Int) : List Int × Int :=
  match decList 1 decI b with
  | .err e => ([], e)
  | .ok v u => if u = b.length then (if vecOk v then (v, 0) else ([], 40)) else ([], 11)
end Go.PL
namespace Go.Proofs.Ytpnfcgkocfjeiaa
open Go.AM Go.PL
set_option linter.unusedVariables false

abbrev RD : Ty := .pair L (.pair I .unit)
def sizeSp : FSpec := ⟨[I], [I], fun x => -9223372036854775808 < (x : Int), fun x => sizeS x⟩
def validSp : FSpec := ⟨[L], [.bool], fun _ => True, fun v => vecOk v⟩
def diffSp : FSpec := ⟨[L], [.bool], fun _ => True, fun v => diffOk v⟩
def metricSp : FSpec := ⟨[I], [.bool], fun _ => True, fun m => decide (1 ≤ (m : Int)) && decide ((m : Int) ≤ 3)⟩
def alikeSp : FSpec := ⟨[L, L], [.bool], fun _ => True, fun x => alikeB x.1 x.2⟩
def subSp : FSpec := ⟨[L, L], [L], fun x => small 64 4000 x.1 ∧ small 64 4000 x.2 ∧ (x.1 : List Int).length = (x.2 : List Int).length, fun x => subS x.1 x.2⟩
def dotSp : FSpec := ⟨[L, L], [I], fun x => small 64 8000 x.1 ∧ small 64 8000 x.2 ∧ (x.1 : List Int).length = (x.2 : List Int).length, fun x => dotS x.1 x.2⟩
def normSp : FSpec := ⟨[I, L], [I], fun x => 1 ≤ (x.1 : Int) ∧ (x.1 : Int) ≤ 3 ∧ small 64 8000 x.2, fun x => normS x.1 x.2⟩
def keySp : FSpec := ⟨[I, L, L], [I], fun x => 1 ≤ (x.1 : Int) ∧ (x.1 : Int) ≤ 3 ∧ small 64 4000 x.2.1 ∧ small 64 4000 x.2.2 ∧ (x.2.1 : List Int).length = (x.2.2 : List Int).length, fun x => keyS x.1 x.2.1 x.2.2⟩
def floorSp : FSpec := ⟨[I, I], [I], fun x => -1000000 ≤ (x.1 : Int) ∧ (x.1 : Int) ≤ 1000000 ∧ 1 ≤ (x.2 : Int), fun x => (x.1 : Int) / x.2⟩
def meanSp : FSpec := ⟨[LL], [L], fun l => rows (l : List (List Int)), fun l => meanS l⟩
def cmp1Sp : FSpec := ⟨[I, I], [I], fun _ => True, fun x => sgnS x.1 x.2⟩
def lexSp : FSpec := ⟨[L, L], [I], fun _ => True, fun x => lexS x.1 x.2⟩
def cmpSp : FSpec := ⟨[L, L], [I], fun _ => True, fun x => cmpS x.1 x.2⟩
def same4Sp : FSpec := ⟨[L, L], [.bool], fun _ => True, fun x => decide ((x.1 : List Int) = x.2)⟩
def allSp : FSpec := ⟨[LL, I], [.bool], fun _ => True, fun x => allB x.1 x.2⟩
def cloneG : GSpec := ⟨[L], 3, I, fun v => (v : List Int).length ≤ 1000000, fun v => v⟩
def readSp : FSpec := ⟨[BY], [L, I], fun b => small2 (b : List Int), fun b => readS b⟩
def rReadSp : FSpec := ⟨[BY], [RD], fun b => small2 (b : List Int), fun b => ((readS b).1, (readS b).2, ())⟩

def loopsV (f : FuncId) (r : Nat) : List LA :=
  if Nat.beq f 13 then [.slot 3 I] else
  if Nat.beq f 26 then [.slot 3 I] else
  if Nat.beq f 28 then [.slot 5 I, .slot 6 I] else
  if Nat.beq f 21 then [.gslot 5 3 I, .slot 6 I] else
  if Nat.beq f 23 then [.slot 5 I, .slot 6 I] else
  if Nat.beq f 17 then [.slot 5 I] else
  if Nat.beq f 29 then [.slot 5 I] else
  if Nat.beq f 31 then (if Nat.beq r 3 then [.gslot 3 3 I, .slot 4 I] else [.gslot 3 3 I, .slot 5 I, .slot 6 I]) else
  if Nat.beq f 36 then [.slot 1 .bool, .slot 11 I] else
  if Nat.beq f 45 then [.slot 1 I, .slot 11 I] else
  if Nat.beq f 20 then [.gslot 5 3 I, .slot 11 I] else
  if Nat.beq f 22 then [.slot 5 I, .slot 10 I] else
  if Nat.beq f 30 then (if Nat.beq r 3 then [.gslot 3 3 I, .slot 17 I] else if Nat.beq r 6 then [.gslot 3 3 I, .slot 23 I] else [.gslot 3 3 I, .gslot 37 3 I, .slot 39 I]) else
  if Nat.beq f 40 then [.slot 11 I] else
  loopsX f r
def isOr (f : FuncId) : Bool :=
  Nat.beq f 38 ||
  false
def hintV (f : FuncId) : Hint := ⟨loopsV f, fun _ => .split, fun t => bif isOr f && Nat.beq t 9 then .force else .split, fun r => bif isOr f && Nat.beq r 3 then 5 else 0⟩

noncomputable def V0 : Ctx := mkctx bs [] [] hintV
noncomputable def V1 : Ctx := mkctx bs [(46, sizeSp), (13, validSp), (21, subSp)
  , (47, floorSp)
  , (17, cmpSp)
  , (12, validSp)
  , (49, getIntsSp)
  , (48, getIntsSp)
  , (50, intsSp)
  , (51, intsSp)
  , (39, cmp1Sp)
  ] [
  (41, cloneG)
  ] hintV
noncomputable def V2 : Ctx := mkctx bs [(21, subSp), (28, normSp)
  , (15, alikeSp)
  , (39, cmp1Sp)
  , (40, lexSp)
  , (20, subSp), (27, normSp)
  ] [] hintV

theorem size_nf (n : Int) : fnwp V0 5 46 sizeSp n = ((decide (n < (0 : Int)) = true → isI64 ((0 : Int) - n) ∧ (0 : Int) - n = sizeS n) ∧ (decide (n < (0 : Int)) = false → n = sizeS
  n)) := by kernel_rfl
theorem rValid_nf (v : List Int) : fnwp V0 5 13 validSp v = (∃ (I : Int → Prop), ∃ (μ : Int → Nat), I (0 : Int) ∧ ∀ (x : Int), I x → (decide (x < (↑v.length : Int)) = true → ((0 :
  Int) ≤ x ∧ x < (↑v.length : Int)) ∧ (decide (v.getD x.toNat (0 : Int) < (-1000 : Int)) = true → false = vecOk v) ∧ (decide (v.getD x.toNat (0 : Int) < (-1000 : Int)) = false →
  ((0 : Int) ≤ x ∧ x < (↑v.length : Int)) ∧ (decide ((1000 : Int) < v.getD x.toNat (0 : Int)) = true → false = vecOk v) ∧ (decide ((1000 : Int) < v.getD x.toNat (0 : Int)) = false
  → isI64 (x + (1 : Int)) ∧ I (x + (1 : Int)) ∧ μ (x + (1 : Int)) < μ x))) ∧ (decide (x < (↑v.length : Int)) = false → (decide ((1 : Int) ≤ (↑v.length : Int)) = true → decide
  ((↑v.length : Int) ≤ (32 : Int)) = vecOk v) ∧ (decide ((1 : Int) ≤ (↑v.length : Int)) = false → false = vecOk v))) := by kernel_rfl
theorem rDiff_nf (v : List Int) : fnwp V0 5 26 diffSp v = (∃ (I : Int → Prop), ∃ (μ : Int → Nat), I (0 : Int) ∧ ∀ (x : Int), I x → (decide (x < (↑v.length : Int)) = true → ((0 :
  Int) ≤ x ∧ x < (↑v.length : Int)) ∧ (decide (v.getD x.toNat (0 : Int) < (-2000 : Int)) = true → false = diffOk v) ∧ (decide (v.getD x.toNat (0 : Int) < (-2000 : Int)) = false →
  ((0 : Int) ≤ x ∧ x < (↑v.length : Int)) ∧ (decide ((2000 : Int) < v.getD x.toNat (0 : Int)) = true → false = diffOk v) ∧ (decide ((2000 : Int) < v.getD x.toNat (0 : Int)) = false
  → isI64 (x + (1 : Int)) ∧ I (x + (1 : Int)) ∧ μ (x + (1 : Int)) < μ x))) ∧ (decide (x < (↑v.length : Int)) = false → (decide ((1 : Int) ≤ (↑v.length : Int)) = true → decide
  ((↑v.length : Int) ≤ (32 : Int)) = diffOk v) ∧ (decide ((1 : Int) ≤ (↑v.length : Int)) = false → false = diffOk v))) := by kernel_rfl
theorem rMetric_nf (m : Int) : fnwp V0 5 18 metricSp m = ((decide ((1 : Int) ≤ m) = true → decide (m ≤ (3 : Int)) = (decide ((1 : Int) ≤ m) && decide (m ≤ (3 : Int)))) ∧ (decide
  ((1 : Int) ≤ m) = false → false = (decide ((1 : Int) ≤ m) && decide (m ≤ (3 : Int))))) := by kernel_rfl
theorem rAlike_nf (a b : List Int) : fnwp V1 5 15 alikeSp (a, b) = (True ∧ (vecOk a = true → True ∧ (vecOk b = true → decide ((↑a.length : Int) = (↑b.length : Int)) = alikeB a b) ∧
  (vecOk b = false → false = alikeB a b)) ∧ (vecOk a = false → false = alikeB a b)) := by kernel_rfl
theorem rSub_nf (a b : List Int) : fnwp V0 5 21 subSp (a, b) = (∃ (I : List Int × Int → Prop), ∃ (μ : List Int × Int → Nat), I ([], (0 : Int)) ∧ ∀ (x : List Int × Int), I x →
  (decide (x.snd < (↑a.length : Int)) = true → ((0 : Int) ≤ x.snd ∧ x.snd < (↑a.length : Int)) ∧ ((0 : Int) ≤ x.snd ∧ x.snd < (↑b.length : Int)) ∧ isI64 (a.getD x.snd.toNat (0 :
  Int) - b.getD x.snd.toNat (0 : Int)) ∧ roomP V0 (3 : Nat) (x.fst.length + [a.getD x.snd.toNat (0 : Int) - b.getD x.snd.toNat (0 : Int)].length) ∧ isI64 (x.snd + (1 : Int)) ∧ I
  (x.fst ++ [a.getD x.snd.toNat (0 : Int) - b.getD x.snd.toNat (0 : Int)], x.snd + (1 : Int)) ∧ μ (x.fst ++ [a.getD x.snd.toNat (0 : Int) - b.getD x.snd.toNat (0 : Int)], x.snd +
  (1 : Int)) < μ x) ∧ (decide (x.snd < (↑a.length : Int)) = false → x.fst = subS a b)) := by kernel_rfl
theorem rDot_nf (a b : List Int) : fnwp V0 5 23 dotSp (a, b) = (∃ (I : Int × Int → Prop), ∃ (μ : Int × Int → Nat), I ((0 : Int), (0 : Int)) ∧ ∀ (x : Int × Int), I x → (decide
  (x.snd < (↑a.length : Int)) = true → ((0 : Int) ≤ x.snd ∧ x.snd < (↑a.length : Int)) ∧ ((0 : Int) ≤ x.snd ∧ x.snd < (↑b.length : Int)) ∧ isI64 (a.getD x.snd.toNat (0 : Int) *
  b.getD x.snd.toNat (0 : Int)) ∧ isI64 (x.fst + a.getD x.snd.toNat (0 : Int) * b.getD x.snd.toNat (0 : Int)) ∧ isI64 (x.snd + (1 : Int)) ∧ I (x.fst + a.getD x.snd.toNat (0 : Int)
  * b.getD x.snd.toNat (0 : Int), x.snd + (1 : Int)) ∧ μ (x.fst + a.getD x.snd.toNat (0 : Int) * b.getD x.snd.toNat (0 : Int), x.snd + (1 : Int)) < μ x) ∧ (decide (x.snd <
  (↑a.length : Int)) = false → x.fst = dotS a b)) := by kernel_rfl
theorem rNorm_nf (m : Int) (v : List Int) : fnwp V1 5 28 normSp (m, v) = (∃ (I : Int × Int → Prop), ∃ (μ : Int × Int → Nat), I ((0 : Int), (0 : Int)) ∧ ∀ (x : Int × Int), I x →
  (decide (x.snd < (↑v.length : Int)) = true → (decide (m = (1 : Int)) = true → ((0 : Int) ≤ x.snd ∧ x.snd < (↑v.length : Int)) ∧ (-9223372036854775808 : Int) < v.getD x.snd.toNat
  (0 : Int) ∧ isI64 (x.fst + sizeS (v.getD x.snd.toNat (0 : Int))) ∧ isI64 (x.snd + (1 : Int)) ∧ I (x.fst + sizeS (v.getD x.snd.toNat (0 : Int)), x.snd + (1 : Int)) ∧ μ (x.fst +
  sizeS (v.getD x.snd.toNat (0 : Int)), x.snd + (1 : Int)) < μ x) ∧ (decide (m = (1 : Int)) = false → (decide (m = (2 : Int)) = true → ((0 : Int) ≤ x.snd ∧ x.snd < (↑v.length :
  Int)) ∧ ((0 : Int) ≤ x.snd ∧ x.snd < (↑v.length : Int)) ∧ isI64 (v.getD x.snd.toNat (0 : Int) * v.getD x.snd.toNat (0 : Int)) ∧ isI64 (x.fst + v.getD x.snd.toNat (0 : Int) *
  v.getD x.snd.toNat (0 : Int)) ∧ isI64 (x.snd + (1 : Int)) ∧ I (x.fst + v.getD x.snd.toNat (0 : Int) * v.getD x.snd.toNat (0 : Int), x.snd + (1 : Int)) ∧ μ (x.fst + v.getD
  x.snd.toNat (0 : Int) * v.getD x.snd.toNat (0 : Int), x.snd + (1 : Int)) < μ x) ∧ (decide (m = (2 : Int)) = false → ((0 : Int) ≤ x.snd ∧ x.snd < (↑v.length : Int)) ∧
  (-9223372036854775808 : Int) < v.getD x.snd.toNat (0 : Int) ∧ isI64 (x.snd + (1 : Int)) ∧ I (max x.fst (sizeS (v.getD x.snd.toNat (0 : Int))), x.snd + (1 : Int)) ∧ μ (max x.fst
  (sizeS (v.getD x.snd.toNat (0 : Int))), x.snd + (1 : Int)) < μ x))) ∧ (decide (x.snd < (↑v.length : Int)) = false → x.fst = normS m v)) := by kernel_rfl
theorem rKey_nf (m : Int) (a b : List Int) : fnwp V2 5 25 keySp (m, a, b) = ((small (64 : Nat) (4000 : Int) a ∧ small (64 : Nat) (4000 : Int) b ∧ a.length = b.length) ∧ ((1 : Int)
  ≤ m ∧ m ≤ (3 : Int) ∧ small (64 : Nat) (8000 : Int) (subS a b)) ∧ normS m (subS a b) = keyS m a b) := by kernel_rfl
theorem rFloor_nf (a b : Int) : fnwp V0 5 47 floorSp (a, b) = ((b ≠ (0 : Int) ∧ isI64 (a.tdiv b)) ∧ b ≠ (0 : Int) ∧ (decide (a.tmod b < (0 : Int)) = true → isI64 (a.tdiv b - (1 :
  Int)) ∧ a.tdiv b - (1 : Int) = a / b) ∧ (decide (a.tmod b < (0 : Int)) = false → a.tdiv b = a / b)) := by kernel_rfl
theorem rMean_nf (l : List (List Int)) : fnwp V1 5 31 meanSp l = (∃ (I : List Int × Int → Prop), ∃ (μ : List Int × Int → Nat), I ([], (0 : Int)) ∧ ∀ (x : List Int × Int), I x → ((0
  : Int) ≤ (0 : Int) ∧ (0 : Int) < (↑l.length : Int)) ∧ (decide (x.snd < (↑(l.getD (0 : Nat) []).length : Int)) = true → ∃ (I_1 : List Int × Int × Int → Prop), ∃ (μ_1 : List Int ×
  Int × Int → Nat), I_1 (x.fst, (0 : Int), (0 : Int)) ∧ ∀ (x_1 : List Int × Int × Int), I_1 x_1 → (decide (x_1.snd.snd < (↑l.length : Int)) = true → ((0 : Int) ≤ x_1.snd.snd ∧
  x_1.snd.snd < (↑l.length : Int)) ∧ ((0 : Int) ≤ x.snd ∧ x.snd < (↑(l.getD x_1.snd.snd.toNat []).length : Int)) ∧ isI64 (x_1.snd.fst + (l.getD x_1.snd.snd.toNat []).getD
  x.snd.toNat (0 : Int)) ∧ isI64 (x_1.snd.snd + (1 : Int)) ∧ I_1 (x_1.fst, x_1.snd.fst + (l.getD x_1.snd.snd.toNat []).getD x.snd.toNat (0 : Int), x_1.snd.snd + (1 : Int)) ∧ μ_1
  (x_1.fst, x_1.snd.fst + (l.getD x_1.snd.snd.toNat []).getD x.snd.toNat (0 : Int), x_1.snd.snd + (1 : Int)) < μ_1 x_1) ∧ (decide (x_1.snd.snd < (↑l.length : Int)) = false →
  ((-1000000 : Int) ≤ x_1.snd.fst ∧ x_1.snd.fst ≤ (1000000 : Int) ∧ (1 : Int) ≤ (↑l.length : Int)) ∧ roomP V1 (3 : Nat) (x_1.fst.length + [x_1.snd.fst / (↑l.length : Int)].length)
  ∧ isI64 (x.snd + (1 : Int)) ∧ I (x_1.fst ++ [x_1.snd.fst / (↑l.length : Int)], x.snd + (1 : Int)) ∧ μ (x_1.fst ++ [x_1.snd.fst / (↑l.length : Int)], x.snd + (1 : Int)) < μ x)) ∧
  (decide (x.snd < (↑(l.getD (0 : Nat) []).length : Int)) = false → x.fst = meanS l)) := by kernel_rfl
theorem rCompare_nf (a b : List Int) : fnwp V0 5 17 cmpSp (a, b) = ((decide ((↑a.length : Int) < (↑b.length : Int)) = true → (-1 : Int) = cmpS a b) ∧ (decide ((↑a.length : Int) <
  (↑b.length : Int)) = false → (decide ((↑b.length : Int) < (↑a.length : Int)) = true → (1 : Int) = cmpS a b) ∧ (decide ((↑b.length : Int) < (↑a.length : Int)) = false → ∃ (I : Int
  → Prop), ∃ (μ : Int → Nat), I (0 : Int) ∧ ∀ (x : Int), I x → (decide (x < (↑a.length : Int)) = true → ((0 : Int) ≤ x ∧ x < (↑a.length : Int)) ∧ ((0 : Int) ≤ x ∧ x < (↑b.length :
  Int)) ∧ (decide (a.getD x.toNat (0 : Int) < b.getD x.toNat (0 : Int)) = true → (-1 : Int) = cmpS a b) ∧ (decide (a.getD x.toNat (0 : Int) < b.getD x.toNat (0 : Int)) = false →
  ((0 : Int) ≤ x ∧ x < (↑a.length : Int)) ∧ ((0 : Int) ≤ x ∧ x < (↑b.length : Int)) ∧ (decide (b.getD x.toNat (0 : Int) < a.getD x.toNat (0 : Int)) = true → (1 : Int) = cmpS a b) ∧
  (decide (b.getD x.toNat (0 : Int) < a.getD x.toNat (0 : Int)) = false → isI64 (x + (1 : Int)) ∧ I (x + (1 : Int)) ∧ μ (x + (1 : Int)) < μ x))) ∧ (decide (x < (↑a.length : Int)) =
  false → (0 : Int) = cmpS a b)))) := by kernel_rfl
theorem rSame_nf (a b : List Int) : fnwp V1 5 19 same4Sp (a, b) = (True ∧ decide (cmpS a b = (0 : Int)) = decide (a = b)) := by kernel_rfl
theorem rAll_nf (l : List (List Int)) (n : Int) : fnwp V2 5 29 allSp (l, n) = (∃ (I : Int → Prop), ∃ (μ : Int → Nat), I (0 : Int) ∧ ∀ (x : Int), I x → (decide (x < (↑l.length :
  Int)) = true → ((0 : Int) ≤ (0 : Int) ∧ (0 : Int) < (↑l.length : Int)) ∧ ((0 : Int) ≤ x ∧ x < (↑l.length : Int)) ∧ True ∧ ((!alikeB (l.getD (0 : Nat) []) (l.getD x.toNat [])) =
  true → false = allB l n) ∧ ((!alikeB (l.getD (0 : Nat) []) (l.getD x.toNat [])) = false → isI64 (x + (1 : Int)) ∧ I (x + (1 : Int)) ∧ μ (x + (1 : Int)) < μ x)) ∧ (decide (x <
  (↑l.length : Int)) = false → (decide ((1 : Int) ≤ (↑l.length : Int)) = true → decide ((↑l.length : Int) ≤ n) = allB l n) ∧ (decide ((1 : Int) ≤ (↑l.length : Int)) = false → false
  = allB l n))) := by kernel_rfl
theorem rEncode_nf (v : List Int) : fnwp V1 5 35 intsSp v = (small2 v ∧ encList encI v = encList encI v) := by kernel_rfl
theorem rDecode_nf (b : List Int) : fnwp V1 5 33 rReadSp b = (small2 b ∧ ((!decide (((decList (1 : Int) decI b).triple []).snd.snd = (0 : Int))) = true → ([], ((decList (1 : Int)
  decI b).triple []).snd.snd, ()) = ((readS b).fst, (readS b).snd, ())) ∧ ((!decide (((decList (1 : Int) decI b).triple []).snd.snd = (0 : Int))) = false → ((!decide (((decList (1
  : Int) decI b).triple []).snd.fst = (↑b.length : Int))) = true → ([], (11 : Int), ()) = ((readS b).fst, (readS b).snd, ())) ∧ ((!decide (((decList (1 : Int) decI b).triple
  []).snd.fst = (↑b.length : Int))) = false → True ∧ ((!vecOk ((decList (1 : Int) decI b).triple []).fst) = true → ([], (40 : Int), ()) = ((readS b).fst, (readS b).snd, ())) ∧
  ((!vecOk ((decList (1 : Int) decI b).triple []).fst) = false → (((decList (1 : Int) decI b).triple []).fst, (0 : Int), ()) = ((readS b).fst, (readS b).snd, ()))))) := by
  kernel_rfl
theorem valid_nf (v : List Int) : fnwp V0 5 12 validSp v = (∃ (I : Bool × Int → Prop), ∃ (μ : Bool × Int → Nat), I (true, (0 : Int)) ∧ ∀ (x : Bool × Int), I x → (decide (x.snd <
  (↑v.length : Int)) = true → ((0 : Int) ≤ x.snd ∧ x.snd < (↑v.length : Int)) ∧ (x.fst = true → (decide ((-1000 : Int) ≤ v.getD x.snd.toNat (0 : Int)) = true → isI64 (x.snd + (1 :
  Int)) ∧ I (decide (v.getD x.snd.toNat (0 : Int) ≤ (1000 : Int)), x.snd + (1 : Int)) ∧ μ (decide (v.getD x.snd.toNat (0 : Int) ≤ (1000 : Int)), x.snd + (1 : Int)) < μ x) ∧ (decide
  ((-1000 : Int) ≤ v.getD x.snd.toNat (0 : Int)) = false → isI64 (x.snd + (1 : Int)) ∧ I (false, x.snd + (1 : Int)) ∧ μ (false, x.snd + (1 : Int)) < μ x)) ∧ (x.fst = false → isI64
  (x.snd + (1 : Int)) ∧ I (false, x.snd + (1 : Int)) ∧ μ (false, x.snd + (1 : Int)) < μ x)) ∧ (decide (x.snd < (↑v.length : Int)) = false → (x.fst = true → (decide ((1 : Int) ≤
  (↑v.length : Int)) = true → decide ((↑v.length : Int) ≤ (32 : Int)) = vecOk v) ∧ (decide ((1 : Int) ≤ (↑v.length : Int)) = false → false = vecOk v)) ∧ (x.fst = false → false =
  vecOk v))) := by kernel_rfl
theorem alike_nf (a b : List Int) : fnwp V1 5 14 alikeSp (a, b) = ((decide ((↑a.length : Int) = (↑b.length : Int)) = true → True ∧ (vecOk a = true → True ∧ vecOk b = alikeB a b) ∧
  (vecOk a = false → false = alikeB a b)) ∧ (decide ((↑a.length : Int) = (↑b.length : Int)) = false → false = alikeB a b)) := by kernel_rfl
theorem cmp1_nf (a b : Int) : fnwp V0 5 39 cmp1Sp (a, b) = (((!decide (a = a)) = true → ((!decide (b = b)) = true → (0 : Int) = sgnS a b) ∧ ((!decide (b = b)) = false → (-1 : Int)
  = sgnS a b)) ∧ ((!decide (a = a)) = false → ((!decide (b = b)) = true → (1 : Int) = sgnS a b) ∧ ((!decide (b = b)) = false → (decide (a < b) = true → (-1 : Int) = sgnS a b) ∧
  (decide (a < b) = false → (decide (b < a) = true → (1 : Int) = sgnS a b) ∧ (decide (b < a) = false → (0 : Int) = sgnS a b))))) := by kernel_rfl
theorem lex_nf (a b : List Int) : fnwp V1 5 40 lexSp (a, b) = (∃ (I : Int → Prop), ∃ (μ : Int → Nat), I (0 : Int) ∧ ∀ (x : Int), I x → (decide (x < (↑a.length : Int)) = true → ((0
  : Int) ≤ x ∧ x < (↑a.length : Int)) ∧ (decide ((↑b.length : Int) ≤ x) = true → (1 : Int) = lexS a b) ∧ (decide ((↑b.length : Int) ≤ x) = false → ((0 : Int) ≤ x ∧ x < (↑b.length :
  Int)) ∧ True ∧ ((!decide (sgnS (a.getD x.toNat (0 : Int)) (b.getD x.toNat (0 : Int)) = (0 : Int))) = true → sgnS (a.getD x.toNat (0 : Int)) (b.getD x.toNat (0 : Int)) = lexS a b)
  ∧ ((!decide (sgnS (a.getD x.toNat (0 : Int)) (b.getD x.toNat (0 : Int)) = (0 : Int))) = false → isI64 (x + (1 : Int)) ∧ I (x + (1 : Int)) ∧ μ (x + (1 : Int)) < μ x))) ∧ (decide
  (x < (↑a.length : Int)) = false → (decide ((↑a.length : Int) < (↑b.length : Int)) = true → (-1 : Int) = lexS a b) ∧ (decide ((↑a.length : Int) < (↑b.length : Int)) = false → (0 :
  Int) = lexS a b))) := by kernel_rfl
theorem compare_nf (a b : List Int) : fnwp V2 5 16 cmpSp (a, b) = (True ∧ True ∧ ((0 : Int) ≤ (0 : Int) ∧ (0 : Int) < (↑[sgnS (↑a.length : Int) (↑b.length : Int), lexS a b].length
  : Int)) ∧ ((!decide ([sgnS (↑a.length : Int) (↑b.length : Int), lexS a b].getD (0 : Nat) (0 : Int) = (0 : Int))) = true → [sgnS (↑a.length : Int) (↑b.length : Int), lexS a
  b].getD (0 : Nat) (0 : Int) = cmpS a b) ∧ ((!decide ([sgnS (↑a.length : Int) (↑b.length : Int), lexS a b].getD (0 : Nat) (0 : Int) = (0 : Int))) = false → isI64 (1 : Int) ∧ ((0 :
  Int) ≤ (1 : Int) ∧ (1 : Int) < (↑[sgnS (↑a.length : Int) (↑b.length : Int), lexS a b].length : Int)) ∧ ((!decide ([sgnS (↑a.length : Int) (↑b.length : Int), lexS a b].getD (1 :
  Nat) (0 : Int) = (0 : Int))) = true → [sgnS (↑a.length : Int) (↑b.length : Int), lexS a b].getD (1 : Nat) (0 : Int) = cmpS a b) ∧ ((!decide ([sgnS (↑a.length : Int) (↑b.length :
  Int), lexS a b].getD (1 : Nat) (0 : Int) = (0 : Int))) = false → isI64 (2 : Int) ∧ (0 : Int) = cmpS a b))) := by kernel_rfl
theorem clone_nf (v : List Int) : fnwpG V0 5 41 cloneG v = (∀ (b : Bool), (b = true → v = []) → (b = true → [] = v) ∧ (b = false → roomP V0 (3 : Nat) v.length ∧ v = v)) := by
  kernel_rfl
theorem sub_nf (a b : List Int) : fnwp V1 5 20 subSp (a, b) = (a.length ≤ (1000000 : Nat) ∧ ∃ (I : List Int × Int → Prop), ∃ (μ : List Int × Int → Nat), I (a, (0 : Int)) ∧ ∀ (x :
  List Int × Int), I x → (decide (x.snd < (↑a.length : Int)) = true → ((0 : Int) ≤ x.snd ∧ x.snd < (↑x.fst.length : Int)) ∧ ((0 : Int) ≤ x.snd ∧ x.snd < (↑b.length : Int)) ∧ isI64
  (x.fst.getD x.snd.toNat (0 : Int) - b.getD x.snd.toNat (0 : Int)) ∧ ((0 : Int) ≤ x.snd ∧ x.snd < (↑x.fst.length : Int)) ∧ isI64 (x.snd + (1 : Int)) ∧ I (x.fst.set x.snd.toNat
  (x.fst.getD x.snd.toNat (0 : Int) - b.getD x.snd.toNat (0 : Int)), x.snd + (1 : Int)) ∧ μ (x.fst.set x.snd.toNat (x.fst.getD x.snd.toNat (0 : Int) - b.getD x.snd.toNat (0 :
  Int)), x.snd + (1 : Int)) < μ x) ∧ (decide (x.snd < (↑a.length : Int)) = false → x.fst = subS a b)) := by kernel_rfl
theorem dot_nf (a b : List Int) : fnwp V0 5 22 dotSp (a, b) = (∃ (I : Int × Int → Prop), ∃ (μ : Int × Int → Nat), I ((0 : Int), (0 : Int)) ∧ ∀ (x : Int × Int), I x → (decide (x.snd
  < (↑a.length : Int)) = true → ((0 : Int) ≤ x.snd ∧ x.snd < (↑a.length : Int)) ∧ ((0 : Int) ≤ x.snd ∧ x.snd < (↑b.length : Int)) ∧ isI64 (a.getD x.snd.toNat (0 : Int) * b.getD
  x.snd.toNat (0 : Int)) ∧ isI64 (x.fst + a.getD x.snd.toNat (0 : Int) * b.getD x.snd.toNat (0 : Int)) ∧ isI64 (x.snd + (1 : Int)) ∧ I (x.fst + a.getD x.snd.toNat (0 : Int) *
  b.getD x.snd.toNat (0 : Int), x.snd + (1 : Int)) ∧ μ (x.fst + a.getD x.snd.toNat (0 : Int) * b.getD x.snd.toNat (0 : Int), x.snd + (1 : Int)) < μ x) ∧ (decide (x.snd < (↑a.length
  : Int)) = false → x.fst = dotS a b)) := by kernel_rfl
theorem norm_nf (m : Int) (v : List Int) : fnwp V0 5 27 normSp (m, v) = ((m = (1 : Int) → ∃ (I : Int × Int → Prop), ∃ (μ : Int × Int → Nat), I ((0 : Int), (0 : Int)) ∧ ∀ (x : Int ×
  Int), I x → (decide (x.snd < (↑v.length : Int)) = true → ((0 : Int) ≤ x.snd ∧ x.snd < (↑v.length : Int)) ∧ isI64 ((0 : Int) - v.getD x.snd.toNat (0 : Int)) ∧ isI64 (x.fst + max
  (v.getD x.snd.toNat (0 : Int)) ((0 : Int) - v.getD x.snd.toNat (0 : Int))) ∧ isI64 (x.snd + (1 : Int)) ∧ I (x.fst + max (v.getD x.snd.toNat (0 : Int)) ((0 : Int) - v.getD
  x.snd.toNat (0 : Int)), x.snd + (1 : Int)) ∧ μ (x.fst + max (v.getD x.snd.toNat (0 : Int)) ((0 : Int) - v.getD x.snd.toNat (0 : Int)), x.snd + (1 : Int)) < μ x) ∧ (decide (x.snd
  < (↑v.length : Int)) = false → x.fst = normS m v)) ∧ (¬m = (1 : Int) → (m = (2 : Int) → ∃ (I : Int × Int → Prop), ∃ (μ : Int × Int → Nat), I ((0 : Int), (0 : Int)) ∧ ∀ (x : Int ×
  Int), I x → (decide (x.snd < (↑v.length : Int)) = true → ((0 : Int) ≤ x.snd ∧ x.snd < (↑v.length : Int)) ∧ isI64 (v.getD x.snd.toNat (0 : Int) * v.getD x.snd.toNat (0 : Int)) ∧
  isI64 (x.fst + v.getD x.snd.toNat (0 : Int) * v.getD x.snd.toNat (0 : Int)) ∧ isI64 (x.snd + (1 : Int)) ∧ I (x.fst + v.getD x.snd.toNat (0 : Int) * v.getD x.snd.toNat (0 : Int),
  x.snd + (1 : Int)) ∧ μ (x.fst + v.getD x.snd.toNat (0 : Int) * v.getD x.snd.toNat (0 : Int), x.snd + (1 : Int)) < μ x) ∧ (decide (x.snd < (↑v.length : Int)) = false → x.fst =
  normS m v)) ∧ (¬m = (2 : Int) → (m = (3 : Int) → ∃ (I : Int × Int → Prop), ∃ (μ : Int × Int → Nat), I ((0 : Int), (0 : Int)) ∧ ∀ (x : Int × Int), I x → (decide (x.snd <
  (↑v.length : Int)) = true → ((0 : Int) ≤ x.snd ∧ x.snd < (↑v.length : Int)) ∧ isI64 ((0 : Int) - v.getD x.snd.toNat (0 : Int)) ∧ isI64 (x.snd + (1 : Int)) ∧ I (max (max x.fst
  (v.getD x.snd.toNat (0 : Int))) ((0 : Int) - v.getD x.snd.toNat (0 : Int)), x.snd + (1 : Int)) ∧ μ (max (max x.fst (v.getD x.snd.toNat (0 : Int))) ((0 : Int) - v.getD x.snd.toNat
  (0 : Int)), x.snd + (1 : Int)) < μ x) ∧ (decide (x.snd < (↑v.length : Int)) = false → x.fst = normS m v)) ∧ (¬m = (3 : Int) → ∃ (I : Int × Int → Prop), ∃ (μ : Int × Int → Nat), I
  ((0 : Int), (0 : Int)) ∧ ∀ (x : Int × Int), I x → (decide (x.snd < (↑v.length : Int)) = true → ((0 : Int) ≤ x.snd ∧ x.snd < (↑v.length : Int)) ∧ False) ∧ (decide (x.snd <
  (↑v.length : Int)) = false → x.fst = normS m v))))) := by kernel_rfl
theorem key_nf (m : Int) (a b : List Int) : fnwp V2 5 24 keySp (m, a, b) = ((small (64 : Nat) (4000 : Int) a ∧ small (64 : Nat) (4000 : Int) b ∧ a.length = b.length) ∧ ((1 : Int) ≤
  m ∧ m ≤ (3 : Int) ∧ small (64 : Nat) (8000 : Int) (subS a b)) ∧ normS m (subS a b) = keyS m a b) := by kernel_rfl
theorem mean_nf (l : List (List Int)) : fnwp V0 5 30 meanSp l = (((0 : Int) ≤ (0 : Int) ∧ (0 : Int) < (↑l.length : Int)) ∧ ((0 : Int) ≤ (↑(l.getD (0 : Nat) []).length : Int) ∧
  (↑(l.getD (0 : Nat) []).length : Int) ≤ (↑(l.getD (0 : Nat) []).length : Int) ∧ roomP V0 (3 : Nat) (↑(l.getD (0 : Nat) []).length : Int).toNat) ∧ ∃ (I : List Int × Int → Prop), ∃
  (μ : List Int × Int → Nat), I (List.replicate (↑(l.getD (0 : Nat) []).length : Int).toNat (0 : Int), (0 : Int)) ∧ ∀ (x : List Int × Int), I x → (decide (x.snd < (↑l.length :
  Int)) = true → ((0 : Int) ≤ x.snd ∧ x.snd < (↑l.length : Int)) ∧ ∃ (I_1 : List Int × Int → Prop), ∃ (μ_1 : List Int × Int → Nat), I_1 (x.fst, (0 : Int)) ∧ ∀ (x_1 : List Int ×
  Int), I_1 x_1 → (decide (x_1.snd < (↑(l.getD x.snd.toNat []).length : Int)) = true → ((0 : Int) ≤ x_1.snd ∧ x_1.snd < (↑(l.getD x.snd.toNat []).length : Int)) ∧ ((0 : Int) ≤
  x_1.snd ∧ x_1.snd < (↑x_1.fst.length : Int)) ∧ isI64 (x_1.fst.getD x_1.snd.toNat (0 : Int) + (l.getD x.snd.toNat []).getD x_1.snd.toNat (0 : Int)) ∧ ((0 : Int) ≤ x_1.snd ∧
  x_1.snd < (↑x_1.fst.length : Int)) ∧ isI64 (x_1.snd + (1 : Int)) ∧ I_1 (x_1.fst.set x_1.snd.toNat (x_1.fst.getD x_1.snd.toNat (0 : Int) + (l.getD x.snd.toNat []).getD
  x_1.snd.toNat (0 : Int)), x_1.snd + (1 : Int)) ∧ μ_1 (x_1.fst.set x_1.snd.toNat (x_1.fst.getD x_1.snd.toNat (0 : Int) + (l.getD x.snd.toNat []).getD x_1.snd.toNat (0 : Int)),
  x_1.snd + (1 : Int)) < μ_1 x_1) ∧ (decide (x_1.snd < (↑(l.getD x.snd.toNat []).length : Int)) = false → isI64 (x.snd + (1 : Int)) ∧ I (x_1.fst, x.snd + (1 : Int)) ∧ μ (x_1.fst,
  x.snd + (1 : Int)) < μ x)) ∧ (decide (x.snd < (↑l.length : Int)) = false → ∃ (I : List Int × List Int × Int → Prop), ∃ (μ : List Int × List Int × Int → Nat), I (x.fst, x.fst, (0
  : Int)) ∧ ∀ (x_1 : List Int × List Int × Int), I x_1 → (decide (x_1.snd.snd < (↑x.fst.length : Int)) = true → ((0 : Int) ≤ x_1.snd.snd ∧ x_1.snd.snd < (↑x_1.snd.fst.length :
  Int)) ∧ ((↑l.length : Int) ≠ (0 : Int) ∧ isI64 ((x_1.snd.fst.getD x_1.snd.snd.toNat (0 : Int)).tdiv (↑l.length : Int))) ∧ ((0 : Int) ≤ x_1.snd.snd ∧ x_1.snd.snd <
  (↑x_1.snd.fst.length : Int)) ∧ (↑l.length : Int) ≠ (0 : Int) ∧ (decide ((x_1.snd.fst.getD x_1.snd.snd.toNat (0 : Int)).tmod (↑l.length : Int) < (0 : Int)) = true → ((0 : Int) ≤
  x_1.snd.snd ∧ x_1.snd.snd < (↑(x_1.snd.fst.set x_1.snd.snd.toNat ((x_1.snd.fst.getD x_1.snd.snd.toNat (0 : Int)).tdiv (↑l.length : Int))).length : Int)) ∧ isI64 ((x_1.snd.fst.set
  x_1.snd.snd.toNat ((x_1.snd.fst.getD x_1.snd.snd.toNat (0 : Int)).tdiv (↑l.length : Int))).getD x_1.snd.snd.toNat (0 : Int) - (1 : Int)) ∧ ((0 : Int) ≤ x_1.snd.snd ∧ x_1.snd.snd
  < (↑(x_1.snd.fst.set x_1.snd.snd.toNat ((x_1.snd.fst.getD x_1.snd.snd.toNat (0 : Int)).tdiv (↑l.length : Int))).length : Int)) ∧ isI64 (x_1.snd.snd + (1 : Int)) ∧ I
  ((x_1.snd.fst.set x_1.snd.snd.toNat ((x_1.snd.fst.getD x_1.snd.snd.toNat (0 : Int)).tdiv (↑l.length : Int))).set x_1.snd.snd.toNat ((x_1.snd.fst.set x_1.snd.snd.toNat
  ((x_1.snd.fst.getD x_1.snd.snd.toNat (0 : Int)).tdiv (↑l.length : Int))).getD x_1.snd.snd.toNat (0 : Int) - (1 : Int)), (x_1.snd.fst.set x_1.snd.snd.toNat ((x_1.snd.fst.getD
  x_1.snd.snd.toNat (0 : Int)).tdiv (↑l.length : Int))).set x_1.snd.snd.toNat ((x_1.snd.fst.set x_1.snd.snd.toNat ((x_1.snd.fst.getD x_1.snd.snd.toNat (0 : Int)).tdiv (↑l.length :
  Int))).getD x_1.snd.snd.toNat (0 : Int) - (1 : Int)), x_1.snd.snd + (1 : Int)) ∧ μ ((x_1.snd.fst.set x_1.snd.snd.toNat ((x_1.snd.fst.getD x_1.snd.snd.toNat (0 : Int)).tdiv
  (↑l.length : Int))).set x_1.snd.snd.toNat ((x_1.snd.fst.set x_1.snd.snd.toNat ((x_1.snd.fst.getD x_1.snd.snd.toNat (0 : Int)).tdiv (↑l.length : Int))).getD x_1.snd.snd.toNat (0 :
  Int) - (1 : Int)), (x_1.snd.fst.set x_1.snd.snd.toNat ((x_1.snd.fst.getD x_1.snd.snd.toNat (0 : Int)).tdiv (↑l.length : Int))).set x_1.snd.snd.toNat ((x_1.snd.fst.set
  x_1.snd.snd.toNat ((x_1.snd.fst.getD x_1.snd.snd.toNat (0 : Int)).tdiv (↑l.length : Int))).getD x_1.snd.snd.toNat (0 : Int) - (1 : Int)), x_1.snd.snd + (1 : Int)) < μ x_1) ∧
  (decide ((x_1.snd.fst.getD x_1.snd.snd.toNat (0 : Int)).tmod (↑l.length : Int) < (0 : Int)) = false → isI64 (x_1.snd.snd + (1 : Int)) ∧ I (x_1.snd.fst.set x_1.snd.snd.toNat
  ((x_1.snd.fst.getD x_1.snd.snd.toNat (0 : Int)).tdiv (↑l.length : Int)), x_1.snd.fst.set x_1.snd.snd.toNat ((x_1.snd.fst.getD x_1.snd.snd.toNat (0 : Int)).tdiv (↑l.length :
  Int)), x_1.snd.snd + (1 : Int)) ∧ μ (x_1.snd.fst.set x_1.snd.snd.toNat ((x_1.snd.fst.getD x_1.snd.snd.toNat (0 : Int)).tdiv (↑l.length : Int)), x_1.snd.fst.set x_1.snd.snd.toNat
  ((x_1.snd.fst.getD x_1.snd.snd.toNat (0 : Int)).tdiv (↑l.length : Int)), x_1.snd.snd + (1 : Int)) < μ x_1)) ∧ (decide (x_1.snd.snd < (↑x.fst.length : Int)) = false → x_1.snd.fst
  = meanS l))) := by kernel_rfl
theorem encode_nf (v : List Int) : fnwp V1 5 34 intsSp v = (small2 v ∧ encList encI v = encList encI v) := by kernel_rfl
theorem decode_nf (b : List Int) : fnwp V1 5 32 readSp b = (small2 b ∧ ((!decide (((decList (1 : Int) decI b).triple []).snd.snd = (0 : Int))) = true → ([], ((decList (1 : Int)
  decI b).triple []).snd.snd) = readS b) ∧ ((!decide (((decList (1 : Int) decI b).triple []).snd.snd = (0 : Int))) = false → ((!decide (((decList (1 : Int) decI b).triple
  []).snd.fst = (↑b.length : Int))) = true → ([], (11 : Int)) = readS b) ∧ ((!decide (((decList (1 : Int) decI b).triple []).snd.fst = (↑b.length : Int))) = false → True ∧ ((!vecOk
  ((decList (1 : Int) decI b).triple []).fst) = true → ([], (40 : Int)) = readS b) ∧ ((!vecOk ((decList (1 : Int) decI b).triple []).fst) = false → (((decList (1 : Int) decI
  b).triple []).fst, (0 : Int)) = readS b)))) := by kernel_rfl
end Go.Proofs.Ytpnfcgkocfjeiaa
