import Derived.Test.YtdeleoaeegmhlaaMUp
--@drop
namespace Go.PL
open Go.AM

/-! ### Vectors, plain -/
def sizeS (n : Int) : Int := max n (-n)
def coordOk (m x : Int) : Bool := decide (-m ≤ x) && decide (x ≤ m)
def vecB (m : Int) (v : List Int) : Bool := v.all (coordOk m) && (decide (1 ≤ v.length) && decide (v.length ≤ 32))
def vecOk (v : List Int) : Bool := vecB 1000 v
def diffOk (v : List Int) : Bool := vecB 2000 v
def alikeB (a b : List Int) : Bool := vecOk a && (vecOk b && decide (a.length = b.length))
def subS : List Int → List Int → List Int
  | a :: l, b :: m => (a - b) :: subS l m
  | _, _ => []
def normStep (m n x : Int) : Int := if m = 1 then n + sizeS x else if m = 2 then n + x * x else max n (sizeS x)
def normFrom (m n : Int) (v : List Int) : Int := v.foldl (normStep m) n
def normS (m : Int) (v : List Int) : Int := normFrom m 0 v
def keyS (m : Int) (a b : List Int) : Int := normS m (subS a b)
def dotS : List Int → List Int → Int
  | x :: u, y :: v => x * y + dotS u v
  | _, _ => 0
def small (k : Nat) (c : Int) (v : List Int) : Prop := v.length ≤ k ∧ ∀ x ∈ v, -c ≤ x ∧ x ≤ c
def sgnS (x y : Int) : Int := if x < y then -1 else if y < x then 1 else 0
def lexS : List Int → List Int → Int
  | [], [] => 0
  | [], _ :: _ => -1
  | _ :: _, [] => 1
  | x :: a, y :: b => if x < y then -1 else if y < x then 1 else lexS a b
def cmpS (a b : List Int) : Int := if a.length < b.length then -1 else if b.length < a.length then 1 else lexS a b
def csum (l : List (List Int)) (i : Nat) : Int := (l.map fun v => v.getD i 0).sum
def meanS (l : List (List Int)) : List Int := (List.range (l.getD 0 []).length).map fun i => csum l i / (l.length : Int)
def allB (l : List (List Int)) (most : Int) : Bool := l.all (alikeB (l.getD 0 [])) && (decide (1 ≤ (l.length : Int)) && decide ((l.length : Int) ≤ most))
/-- Rows of so many numbers, not too great. -/
def rows (l : List (List Int)) : Prop := 1 ≤ l.length ∧ l.length ≤ 100 ∧ (l.getD 0 []).length ≤ 64 ∧ ∀ v ∈ l, v.length = (l.getD 0 []).length ∧ ∀ x ∈ v, -4000 ≤ x ∧ x ≤ 4000
end Go.PL
namespace Go.Proofs.Ytdeleoaeegmhlaa
open Go.AM Go.PL
set_option linter.unusedVariables false

abbrev RD : Ty := .pair L (.pair I .unit)
def sizeSp : FSpec := ⟨[I], [I], fun x => -9223372036854775808 < (x : Int), fun x => sizeS x⟩
def validSp : FSpec := ⟨[L], [.bool], fun _ => True, fun v => vecOk v⟩
def diffSp : FSpec := ⟨[L], [.bool], fun _ => True, fun v => diffOk v⟩
def metricSp : FSpec := ⟨[I], [.bool], fun _ => True, fun m => decide (1 ≤ (m : Int)) && decide ((m : Int) ≤ 3)⟩
def alikeSp : FSpec := ⟨[L, L], [.bool], fun _ => True, fun x => alikeB x.1 x.2⟩
def subSp : FSpec := ⟨[L, L], [L], fun x => small 64 4000 x.1 ∧ small 64 4000 x.2 ∧ (x.1 : List Int).length = (x.2 : List Int).length, fun x => subS x.1 x.2⟩
def dotSp : FSpec := ⟨[L, L], [I], fun x => small 64 8000 x.1 ∧ small 64 8000 x.2 ∧ (x.1 : List Int).length = (x.2 : List Int).length, fun x => dotS x.1 x.2⟩
def normSp : FSpec := ⟨[I, L], [I], fun x => 1 ≤ (x.1 : Int) ∧ (x.1 : Int) ≤ 3 ∧ small 64 8000 x.2, fun x => normS x.1 x.2⟩
def keySp : FSpec := ⟨[I, L, L], [I], fun x => 1 ≤ (x.1 : Int) ∧ (x.1 : Int) ≤ 3 ∧ small 64 4000 x.2.1 ∧ small 64 4000 x.2.2 ∧ (x.2.1 : List Int).length = (x.2.2 : List Int).length, fun x => keyS x.1 x.2.1 x.2.2⟩
def floorSp : FSpec := ⟨[I, I], [I], fun x => -1000000 ≤ (x.1 : Int) ∧ (x.1 : Int) ≤ 1000000 ∧ 1 ≤ (x.2 : Int), fun x => (x.1 : Int) / x.2⟩
def meanSp : FSpec := ⟨[LL], [L], fun l => rows (l : List (List Int)), fun l => meanS l⟩
def cmp1Sp : FSpec := ⟨[I, I], [I], fun _ => True, fun x => sgnS x.1 x.2⟩
def lexSp : FSpec := ⟨[L, L], [I], fun _ => True, fun x => lexS x.1 x.2⟩
def cmpSp : FSpec := ⟨[L, L], [I], fun _ => True, fun x => cmpS x.1 x.2⟩
def same4Sp : FSpec := ⟨[L, L], [.bool], fun _ => True, fun x => decide ((x.1 : List Int) = x.2)⟩
def allSp : FSpec := ⟨[LL, I], [.bool], fun _ => True, fun x => allB x.1 x.2⟩
def cloneG : GSpec := ⟨[L], 3, I, fun v => (v : List Int).length ≤ 1000000, fun v => v⟩
def loopsV (f : FuncId) (r : Nat) : List LA :=
  if Nat.beq f 9 then [.slot 3 I] else
  if Nat.beq f 47 then [.slot 5 I] else
  if Nat.beq f 81 then [.slot 1 I, .slot 11 I] else
  if Nat.beq f 58 then [.gslot 5 3 I, .slot 11 I] else
  []
def isOr (f : FuncId) : Bool :=
  Nat.beq f 55 ||
  false
def hintV (f : FuncId) : Hint := ⟨loopsV f, fun _ => .split, fun t => bif isOr f && Nat.beq t 9 then .force else .split, fun r => bif isOr f && Nat.beq r 3 then 5 else 0⟩

noncomputable def V0 : Ctx := mkctx bs [] [] hintV
noncomputable def V1 : Ctx := mkctx bs [(9, validSp)] [(33, cloneG)] hintV
noncomputable def V2 : Ctx := mkctx bs [(22, alikeSp), (58, subSp), (57, normSp)] [] hintV

theorem rValid_nf (v : List Int) : fnwp V0 5 9 validSp v = (∃ (I : Int → Prop), ∃ (μ : Int → Nat), I (0 : Int) ∧ ∀ (x : Int), I x → (decide (x < (↑v.length : Int)) = true → ((0 :
  Int) ≤ x ∧ x < (↑v.length : Int)) ∧ (decide (v.getD x.toNat (0 : Int) < (-1000 : Int)) = true → false = vecOk v) ∧ (decide (v.getD x.toNat (0 : Int) < (-1000 : Int)) = false →
  ((0 : Int) ≤ x ∧ x < (↑v.length : Int)) ∧ (decide ((1000 : Int) < v.getD x.toNat (0 : Int)) = true → false = vecOk v) ∧ (decide ((1000 : Int) < v.getD x.toNat (0 : Int)) = false
  → isI64 (x + (1 : Int)) ∧ I (x + (1 : Int)) ∧ μ (x + (1 : Int)) < μ x))) ∧ (decide (x < (↑v.length : Int)) = false → (decide ((1 : Int) ≤ (↑v.length : Int)) = true → decide
  ((↑v.length : Int) ≤ (32 : Int)) = vecOk v) ∧ (decide ((1 : Int) ≤ (↑v.length : Int)) = false → false = vecOk v))) := by kernel_rfl
theorem rMetric_nf (m : Int) : fnwp V0 5 23 metricSp m = ((decide ((1 : Int) ≤ m) = true → decide (m ≤ (3 : Int)) = (decide ((1 : Int) ≤ m) && decide (m ≤ (3 : Int)))) ∧ (decide
  ((1 : Int) ≤ m) = false → false = (decide ((1 : Int) ≤ m) && decide (m ≤ (3 : Int))))) := by kernel_rfl
theorem rAlike_nf (a b : List Int) : fnwp V1 5 22 alikeSp (a, b) = (True ∧ (vecOk a = true → True ∧ (vecOk b = true → decide ((↑a.length : Int) = (↑b.length : Int)) = alikeB a b) ∧
  (vecOk b = false → false = alikeB a b)) ∧ (vecOk a = false → false = alikeB a b)) := by kernel_rfl
theorem rCompare_nf (a b : List Int) : fnwp V0 5 47 cmpSp (a, b) = ((decide ((↑a.length : Int) < (↑b.length : Int)) = true → (-1 : Int) = cmpS a b) ∧ (decide ((↑a.length : Int) <
  (↑b.length : Int)) = false → (decide ((↑b.length : Int) < (↑a.length : Int)) = true → (1 : Int) = cmpS a b) ∧ (decide ((↑b.length : Int) < (↑a.length : Int)) = false → ∃ (I : Int
  → Prop), ∃ (μ : Int → Nat), I (0 : Int) ∧ ∀ (x : Int), I x → (decide (x < (↑a.length : Int)) = true → ((0 : Int) ≤ x ∧ x < (↑a.length : Int)) ∧ ((0 : Int) ≤ x ∧ x < (↑b.length :
  Int)) ∧ (decide (a.getD x.toNat (0 : Int) < b.getD x.toNat (0 : Int)) = true → (-1 : Int) = cmpS a b) ∧ (decide (a.getD x.toNat (0 : Int) < b.getD x.toNat (0 : Int)) = false →
  ((0 : Int) ≤ x ∧ x < (↑a.length : Int)) ∧ ((0 : Int) ≤ x ∧ x < (↑b.length : Int)) ∧ (decide (b.getD x.toNat (0 : Int) < a.getD x.toNat (0 : Int)) = true → (1 : Int) = cmpS a b) ∧
  (decide (b.getD x.toNat (0 : Int) < a.getD x.toNat (0 : Int)) = false → isI64 (x + (1 : Int)) ∧ I (x + (1 : Int)) ∧ μ (x + (1 : Int)) < μ x))) ∧ (decide (x < (↑a.length : Int)) =
  false → (0 : Int) = cmpS a b)))) := by kernel_rfl
theorem rSame_nf (a b : List Int) : fnwp V1 5 19 same4Sp (a, b) = ((decide ((↑a.length : Int) < (↑b.length : Int)) = true → false = decide (a = b)) ∧ (decide ((↑a.length : Int) <
  (↑b.length : Int)) = false → (decide ((↑b.length : Int) < (↑a.length : Int)) = true → false = decide (a = b)) ∧ (decide ((↑b.length : Int) < (↑a.length : Int)) = false → ∃ (I :
  Int → Prop), ∃ (μ : Int → Nat), I (0 : Int) ∧ ∀ (x : Int), I x → (decide (x < (↑a.length : Int)) = true → ((0 : Int) ≤ x ∧ x < (↑a.length : Int)) ∧ ((0 : Int) ≤ x ∧ x <
  (↑b.length : Int)) ∧ (decide (a.getD x.toNat (0 : Int) < b.getD x.toNat (0 : Int)) = true → false = decide (a = b)) ∧ (decide (a.getD x.toNat (0 : Int) < b.getD x.toNat (0 :
  Int)) = false → ((0 : Int) ≤ x ∧ x < (↑a.length : Int)) ∧ ((0 : Int) ≤ x ∧ x < (↑b.length : Int)) ∧ (decide (b.getD x.toNat (0 : Int) < a.getD x.toNat (0 : Int)) = true → false =
  decide (a = b)) ∧ (decide (b.getD x.toNat (0 : Int) < a.getD x.toNat (0 : Int)) = false → isI64 (x + (1 : Int)) ∧ I (x + (1 : Int)) ∧ μ (x + (1 : Int)) < μ x))) ∧ (decide (x <
  (↑a.length : Int)) = false → true = decide (a = b))))) := by kernel_rfl
theorem cmp1_nf (a b : Int) : fnwp V0 5 56 cmp1Sp (a, b) = (((!decide (a = a)) = true → ((!decide (b = b)) = true → (0 : Int) = sgnS a b) ∧ ((!decide (b = b)) = false → (-1 : Int)
  = sgnS a b)) ∧ ((!decide (a = a)) = false → ((!decide (b = b)) = true → (1 : Int) = sgnS a b) ∧ ((!decide (b = b)) = false → (decide (a < b) = true → (-1 : Int) = sgnS a b) ∧
  (decide (a < b) = false → (decide (b < a) = true → (1 : Int) = sgnS a b) ∧ (decide (b < a) = false → (0 : Int) = sgnS a b))))) := by kernel_rfl
theorem clone_nf (v : List Int) : fnwpG V0 5 33 cloneG v = (∀ (b : Bool), (b = true → v = []) → (b = true → [] = v) ∧ (b = false → roomP V0 (3 : Nat) v.length ∧ v = v)) := by
  kernel_rfl
theorem sub_nf (a b : List Int) : fnwp V1 5 58 subSp (a, b) = (a.length ≤ (1000000 : Nat) ∧ ∃ (I : List Int × Int → Prop), ∃ (μ : List Int × Int → Nat), I (a, (0 : Int)) ∧ ∀ (x :
  List Int × Int), I x → (decide (x.snd < (↑a.length : Int)) = true → ((0 : Int) ≤ x.snd ∧ x.snd < (↑x.fst.length : Int)) ∧ ((0 : Int) ≤ x.snd ∧ x.snd < (↑b.length : Int)) ∧ isI64
  (x.fst.getD x.snd.toNat (0 : Int) - b.getD x.snd.toNat (0 : Int)) ∧ ((0 : Int) ≤ x.snd ∧ x.snd < (↑x.fst.length : Int)) ∧ isI64 (x.snd + (1 : Int)) ∧ I (x.fst.set x.snd.toNat
  (x.fst.getD x.snd.toNat (0 : Int) - b.getD x.snd.toNat (0 : Int)), x.snd + (1 : Int)) ∧ μ (x.fst.set x.snd.toNat (x.fst.getD x.snd.toNat (0 : Int) - b.getD x.snd.toNat (0 :
  Int)), x.snd + (1 : Int)) < μ x) ∧ (decide (x.snd < (↑a.length : Int)) = false → x.fst = subS a b)) := by kernel_rfl
theorem norm_nf (m : Int) (v : List Int) : fnwp V0 5 57 normSp (m, v) = ((m = (1 : Int) → ∃ (I : Int × Int → Prop), ∃ (μ : Int × Int → Nat), I ((0 : Int), (0 : Int)) ∧ ∀ (x : Int ×
  Int), I x → (decide (x.snd < (↑v.length : Int)) = true → ((0 : Int) ≤ x.snd ∧ x.snd < (↑v.length : Int)) ∧ isI64 ((0 : Int) - v.getD x.snd.toNat (0 : Int)) ∧ isI64 (x.fst + max
  (v.getD x.snd.toNat (0 : Int)) ((0 : Int) - v.getD x.snd.toNat (0 : Int))) ∧ isI64 (x.snd + (1 : Int)) ∧ I (x.fst + max (v.getD x.snd.toNat (0 : Int)) ((0 : Int) - v.getD
  x.snd.toNat (0 : Int)), x.snd + (1 : Int)) ∧ μ (x.fst + max (v.getD x.snd.toNat (0 : Int)) ((0 : Int) - v.getD x.snd.toNat (0 : Int)), x.snd + (1 : Int)) < μ x) ∧ (decide (x.snd
  < (↑v.length : Int)) = false → x.fst = normS m v)) ∧ (¬m = (1 : Int) → (m = (2 : Int) → ∃ (I : Int × Int → Prop), ∃ (μ : Int × Int → Nat), I ((0 : Int), (0 : Int)) ∧ ∀ (x : Int ×
  Int), I x → (decide (x.snd < (↑v.length : Int)) = true → ((0 : Int) ≤ x.snd ∧ x.snd < (↑v.length : Int)) ∧ isI64 (v.getD x.snd.toNat (0 : Int) * v.getD x.snd.toNat (0 : Int)) ∧
  isI64 (x.fst + v.getD x.snd.toNat (0 : Int) * v.getD x.snd.toNat (0 : Int)) ∧ isI64 (x.snd + (1 : Int)) ∧ I (x.fst + v.getD x.snd.toNat (0 : Int) * v.getD x.snd.toNat (0 : Int),
  x.snd + (1 : Int)) ∧ μ (x.fst + v.getD x.snd.toNat (0 : Int) * v.getD x.snd.toNat (0 : Int), x.snd + (1 : Int)) < μ x) ∧ (decide (x.snd < (↑v.length : Int)) = false → x.fst =
  normS m v)) ∧ (¬m = (2 : Int) → (m = (3 : Int) → ∃ (I : Int × Int → Prop), ∃ (μ : Int × Int → Nat), I ((0 : Int), (0 : Int)) ∧ ∀ (x : Int × Int), I x → (decide (x.snd <
  (↑v.length : Int)) = true → ((0 : Int) ≤ x.snd ∧ x.snd < (↑v.length : Int)) ∧ isI64 ((0 : Int) - v.getD x.snd.toNat (0 : Int)) ∧ isI64 (x.snd + (1 : Int)) ∧ I (max (max x.fst
  (v.getD x.snd.toNat (0 : Int))) ((0 : Int) - v.getD x.snd.toNat (0 : Int)), x.snd + (1 : Int)) ∧ μ (max (max x.fst (v.getD x.snd.toNat (0 : Int))) ((0 : Int) - v.getD x.snd.toNat
  (0 : Int)), x.snd + (1 : Int)) < μ x) ∧ (decide (x.snd < (↑v.length : Int)) = false → x.fst = normS m v)) ∧ (¬m = (3 : Int) → ∃ (I : Int × Int → Prop), ∃ (μ : Int × Int → Nat), I
  ((0 : Int), (0 : Int)) ∧ ∀ (x : Int × Int), I x → (decide (x.snd < (↑v.length : Int)) = true → ((0 : Int) ≤ x.snd ∧ x.snd < (↑v.length : Int)) ∧ False) ∧ (decide (x.snd <
  (↑v.length : Int)) = false → x.fst = normS m v))))) := by kernel_rfl
theorem key_nf (m : Int) (a b : List Int) : fnwp V2 5 25 keySp (m, a, b) = ((small (64 : Nat) (4000 : Int) a ∧ small (64 : Nat) (4000 : Int) b ∧ a.length = b.length) ∧ ((1 : Int) ≤
  m ∧ m ≤ (3 : Int) ∧ small (64 : Nat) (8000 : Int) (subS a b)) ∧ normS m (subS a b) = keyS m a b) := by kernel_rfl
end Go.Proofs.Ytdeleoaeegmhlaa
--@drop
namespace Go.PL
open Go.AM

theorem coord_false {m x : Int} (h : x < -m ∨ m < x) : coordOk m x = false := by
  unfold coordOk
  simp
  omega
theorem coord_true {m x : Int} (h : -m ≤ x) (h' : x ≤ m) : coordOk m x = true := by
  unfold coordOk
  simp [h, h']
theorem vecB_false {m : Int} {v : List Int} {i : Nat} (hi : i < v.length) (h : coordOk m (v.getD i 0) = false) : vecB m v = false := by
  unfold vecB
  rw [Bool.and_eq_false_iff]
  left
  rw [List.all_eq_false]
  exact ⟨_, getD_mem v 0 hi, by rw [h]; simp⟩
theorem vecB_iff {m : Int} {v : List Int} : vecB m v = true ↔ (∀ x ∈ v, -m ≤ x ∧ x ≤ m) ∧ 1 ≤ v.length ∧ v.length ≤ 32 := by
  unfold vecB coordOk
  simp
theorem vec_small {m : Int} {v : List Int} (h : vecB m v = true) {k : Nat} {c : Int} (hk : 32 ≤ k) (hc : m ≤ c) : small k c v := by
  obtain ⟨h1, h2, h3⟩ := vecB_iff.1 h
  exact ⟨by omega, fun x hx => ⟨by have := (h1 x hx).1; omega, by have := (h1 x hx).2; omega⟩⟩
theorem sq_size {c x : Int} (h : -c ≤ x ∧ x ≤ c) : 0 ≤ x * x ∧ x * x ≤ c * c := by
  have hm : 0 ≤ sizeS x ∧ sizeS x ≤ c := by unfold sizeS; omega
  have e : x * x = sizeS x * sizeS x := by
    unfold sizeS
    rcases Int.le_total x (-x) with h | h
    · rw [Int.max_eq_right h, Int.neg_mul_neg]
    · rw [Int.max_eq_left h]
  rw [e]
  exact ⟨Int.mul_nonneg hm.1 hm.1, Int.mul_le_mul hm.2 hm.2 hm.1 (by omega)⟩
theorem mul_size {c x y : Int} (h : -c ≤ x ∧ x ≤ c) (h' : -c ≤ y ∧ y ≤ c) : -(c * c) ≤ x * y ∧ x * y ≤ c * c := by
  have e1 : (x + y) * (x + y) = x * x + y * y + 2 * (x * y) := by
    simp only [Int.add_mul, Int.mul_add, Int.mul_comm y x]; omega
  have e2 : (x - y) * (x - y) = x * x + y * y - 2 * (x * y) := by
    simp only [Int.sub_mul, Int.mul_sub, Int.mul_comm y x]; omega
  have h1 := (sq_size h).2
  have h2 := (sq_size h').2
  have h3 := (sq_size (c := max (x + y) (-(x + y))) (x := x + y) (by omega)).1
  have h4 := (sq_size (c := max (x - y) (-(x - y))) (x := x - y) (by omega)).1
  omega
theorem step_bound {m c M n x : Int} (hM : c * c ≤ M) (hM2 : c ≤ M) (hx : -c ≤ x ∧ x ≤ c) (h0 : 0 ≤ n) : 0 ≤ normStep m n x ∧ normStep m n x ≤ n + M := by
  have h2 := sq_size hx
  unfold normStep sizeS
  split
  · omega
  · split <;> omega
theorem norm_bound {m c M : Int} (hM : c * c ≤ M) (hM2 : c ≤ M) (v : List Int) : ∀ (n : Int), (∀ x ∈ v, -c ≤ x ∧ x ≤ c) → 0 ≤ n → 0 ≤ normFrom m n v ∧ normFrom m n v ≤ n + v.length * M := by
  induction v with
  | nil => intro n _ h0; simp [normFrom]; omega
  | cons x v ih =>
    intro n hv h0
    have hs := step_bound (m := m) hM hM2 (hv x (by simp)) h0
    have := ih (normStep m n x) (fun y hy => hv y (by simp [hy])) hs.1
    simp only [normFrom, List.foldl_cons, List.length_cons] at this ⊢
    refine ⟨this.1, ?_⟩
    have e : ((v.length + 1 : Nat) : Int) * M = v.length * M + M := by rw [Int.natCast_add, Int.add_mul]; simp
    omega
theorem subS_length : ∀ {a b : List Int}, a.length = b.length → (subS a b).length = a.length
  | [], [], _ => rfl
  | a :: l, b :: m, h => by simp only [subS, List.length_cons]; rw [subS_length (by simpa using h)]
  | [], _ :: _, h => by simp at h
  | _ :: _, [], h => by simp at h
theorem subS_small {c d : Int} : ∀ {a b : List Int}, (∀ x ∈ a, -c ≤ x ∧ x ≤ c) → (∀ x ∈ b, -d ≤ x ∧ x ≤ d) → ∀ x ∈ subS a b, -(c + d) ≤ x ∧ x ≤ c + d
  | a :: l, b :: m, h1, h2, x, hx => by
    simp only [subS, List.mem_cons] at hx
    rcases hx with rfl | hx
    · have := h1 a (by simp); have := h2 b (by simp); omega
    · exact subS_small (fun x hx => h1 x (by simp [hx])) (fun x hx => h2 x (by simp [hx])) x hx
  | [], _, _, _, x, hx => by simp [subS] at hx
  | _ :: _, [], _, _, x, hx => by simp [subS] at hx

/-- A norm, so far. -/
def normI (m : Int) (v : List Int) (x : Int × Int) : Prop := 0 ≤ x.2 ∧ x.2 ≤ v.length ∧ 0 ≤ x.1 ∧ x.1 ≤ x.2 * 64000000 ∧ normS m v = normFrom m x.1 (v.drop x.2.toNat)
theorem normI_zero (m : Int) (v : List Int) : normI m v (0, 0) := ⟨by simp, by simp, by simp, by simp, by simp [normS]⟩
theorem normI_step {m : Int} {v : List Int} {x : Int × Int} (h : normI m v x) (hv : ∀ y ∈ v, -8000 ≤ y ∧ y ≤ 8000) (hl : v.length ≤ 64) (hc : x.2 < v.length) :
    normI m v (normStep m x.1 (v.getD x.2.toNat 0), x.2 + 1) ∧ 0 ≤ normStep m x.1 (v.getD x.2.toNat 0) ∧ normStep m x.1 (v.getD x.2.toNat 0) ≤ 4160000000 ∧ 0 ≤ x.1 ∧ x.1 ≤ 4096000000 ∧
      (-8000 ≤ v.getD x.2.toNat 0 ∧ v.getD x.2.toNat 0 ≤ 8000) ∧ (0 ≤ v.getD x.2.toNat 0 * v.getD x.2.toNat 0 ∧ v.getD x.2.toNat 0 * v.getD x.2.toNat 0 ≤ 64000000) := by
  obtain ⟨h0, h1, h2, h3, h4⟩ := h
  have m1 := hv _ (getD_mem v 0 (i := x.2.toNat) (by omega))
  have hs := step_bound (m := m) (c := 8000) (M := 64000000) (by decide) (by decide) m1 h2
  have hq := sq_size m1
  rw [drop_step v 0 h0 hc] at h4
  simp only [normFrom, List.foldl_cons] at h4
  exact ⟨⟨by dsimp only; omega, by dsimp only; omega, hs.1, by dsimp only; omega, h4⟩, hs.1, by omega, by omega, by omega, m1, hq.1, by omega⟩
theorem normI_end {m : Int} {v : List Int} {x : Int × Int} (h : normI m v x) (hc : ¬ x.2 < v.length) : x.1 = normS m v := by
  obtain ⟨h0, h1, h2, h3, h4⟩ := h
  rw [drop_end v hc] at h4
  exact h4.symm

theorem getD_set_self {v : List Int} {i : Nat} (x : Int) (h : i < v.length) : (v.set i x).getD i 0 = x := by
  rw [List.getD_eq_getElem?_getD, List.getElem?_set_self h]; rfl
theorem getD_set_ne {v : List Int} {i j : Nat} (x : Int) (h : j ≠ i) : (v.set i x).getD j 0 = v.getD j 0 := by
  rw [List.getD_eq_getElem?_getD, List.getElem?_set_ne (Ne.symm h), ← List.getD_eq_getElem?_getD]
theorem ext_getD {a b : List Int} (hl : a.length = b.length) (h : ∀ i, i < a.length → a.getD i 0 = b.getD i 0) : a = b := by
  apply List.ext_getElem hl
  intro i h1 h2
  have := h i h1
  rwa [List.getD_eq_getElem?_getD, List.getD_eq_getElem?_getD, List.getElem?_eq_getElem h1, List.getElem?_eq_getElem h2] at this
theorem subS_getD : ∀ {a b : List Int} {i : Nat}, a.length = b.length → i < a.length → (subS a b).getD i 0 = a.getD i 0 - b.getD i 0
  | x :: a, y :: b, 0, _, _ => rfl
  | x :: a, y :: b, i + 1, h, hi => by
    have := subS_getD (a := a) (b := b) (i := i) (by simpa using h) (by simpa using hi)
    simpa [subS] using this
  | [], _, _, _, hi => by simp at hi
  | _ :: _, [], _, h, _ => by simp at h
theorem getD_small {k : Nat} {c : Int} {v : List Int} (h : small k c v) (h0 : 0 ≤ c) (i : Nat) : -c ≤ v.getD i 0 ∧ v.getD i 0 ≤ c := by
  rcases Nat.lt_or_ge i v.length with hi | hi
  · exact h.2 _ (getD_mem v 0 hi)
  · rw [List.getD_eq_getElem?_getD, List.getElem?_eq_none hi]
    simp; omega
theorem dotS_nil (b : List Int) : dotS [] b = 0 := by cases b <;> rfl
theorem sgnS_eq0 {x y : Int} : sgnS x y = 0 ↔ x = y := by
  unfold sgnS
  split
  · omega
  · split <;> omega
theorem lexS_cons (x y : Int) (a b : List Int) : lexS (x :: a) (y :: b) = if sgnS x y = 0 then lexS a b else sgnS x y := by
  unfold sgnS
  rw [lexS]
  split
  · simp
  · split <;> simp
theorem lexS_eq0 : ∀ {a b : List Int}, lexS a b = 0 ↔ a = b
  | [], [] => by simp [lexS]
  | [], _ :: _ => by simp [lexS]
  | _ :: _, [] => by simp [lexS]
  | x :: a, y :: b => by
    rw [lexS_cons]
    have := lexS_eq0 (a := a) (b := b)
    split
    · rename_i h
      rw [sgnS_eq0] at h
      rw [this]; simp [h]
    · rename_i h
      rw [sgnS_eq0] at h
      simp [h, sgnS_eq0]
theorem cmpS_eq0 {a b : List Int} : cmpS a b = 0 ↔ a = b := by
  unfold cmpS
  split
  · rename_i h; constructor
    · omega
    · rintro rfl; omega
  · split
    · rename_i h; constructor
      · omega
      · rintro rfl; omega
    · exact lexS_eq0
theorem csum_bound (l : List (List Int)) (i : Nat) (h : ∀ v ∈ l, ∀ x ∈ v, -4000 ≤ x ∧ x ≤ 4000) : -(4000 * (l.length : Int)) ≤ csum l i ∧ csum l i ≤ 4000 * (l.length : Int) := by
  unfold csum
  induction l with
  | nil => simp
  | cons v l ih =>
    have := ih (fun w hw => h w (by simp [hw]))
    have hv : -4000 ≤ v.getD i 0 ∧ v.getD i 0 ≤ 4000 := by
      rcases Nat.lt_or_ge i v.length with hi | hi
      · exact h v (by simp) _ (getD_mem v 0 hi)
      · rw [List.getD_eq_getElem?_getD, List.getElem?_eq_none hi]; simp
    simp only [List.map_cons, List.sum_cons, List.length_cons]
    omega
theorem csum_take (l : List (List Int)) (i : Nat) {k : Int} (h0 : 0 ≤ k) (h : k < l.length) : csum (l.take (k + 1).toNat) i = csum (l.take k.toNat) i + (l.getD k.toNat []).getD i 0 := by
  rw [take_step l [] h0 h]
  unfold csum
  rw [List.map_append, List.sum_append]
  simp
theorem meanS_length (l : List (List Int)) : (meanS l).length = (l.getD 0 []).length := by simp [meanS]
theorem meanS_getD (l : List (List Int)) {i : Nat} (h : i < (l.getD 0 []).length) : (meanS l).getD i 0 = csum l i / (l.length : Int) := by
  rw [List.getD_eq_getElem?_getD, meanS, List.getElem?_map, List.getElem?_range h]
  rfl
theorem floor_eq {a b : Int} (hb : 0 < b) : (a.tmod b < 0 → a.tdiv b - 1 = a / b) ∧ (¬ a.tmod b < 0 → a.tdiv b = a / b) := by
  have h2 := Int.mul_ediv_add_emod a b
  have h3 := Int.emod_nonneg a (show b ≠ 0 by omega)
  have h4 := Int.emod_lt_of_pos a hb
  rcases Int.le_total 0 a with ha | ha
  · have e1 : a.tdiv b = a / b := Int.tdiv_eq_ediv_of_nonneg ha
    have e2 : a.tmod b = a % b := Int.tmod_eq_emod_of_nonneg ha
    rw [e1, e2]
    exact ⟨fun h => by omega, fun _ => rfl⟩
  · -- a ≤ 0
    obtain ⟨c, rfl⟩ : ∃ c, a = -c := ⟨-a, by omega⟩
    have e1 : (-c).tdiv b = -(c / b) := by rw [Int.neg_tdiv, Int.tdiv_eq_ediv_of_nonneg (by omega)]
    have e2 : (-c).tmod b = -(c % b) := by rw [Int.neg_tmod, Int.tmod_eq_emod_of_nonneg (by omega)]
    have h5 := Int.mul_ediv_add_emod c b
    have h6 := Int.emod_nonneg c (show b ≠ 0 by omega)
    have h7 := Int.emod_lt_of_pos c hb
    rw [e1, e2]
    have key : ∀ q r : Int, b * q + r = -c → 0 ≤ r → r < b → q = (-c) / b := by
      intro q r hq h0 hr
      have : (b * q + r) / b = q := by
        rw [Int.add_comm, Int.add_mul_ediv_left _ _ (by omega), Int.ediv_eq_zero_of_lt h0 hr]; omega
      rw [← this, hq]
    refine ⟨fun h => ?_, fun h => ?_⟩
    · refine key _ (b - c % b) ?_ (by omega) (by omega)
      rw [Int.mul_sub, Int.mul_neg, Int.mul_one]
      omega
    · refine key _ 0 ?_ (by omega) (by omega)
      rw [Int.mul_neg]
      omega
theorem isI64_small {n : Int} (h : -9000000000000000000 ≤ n) (h' : n ≤ 9000000000000000000) : isI64 n := by unfold isI64; omega
end Go.PL
namespace Go.Proofs.Ytdeleoaeegmhlaa
open Go.AM Go.PL
set_option linter.unusedVariables false

theorem bytesI8 : Try.prog.bytesOf 3 = 8 := by kernel_rfl
theorem room8 {C : Ctx} {t : TypeId} {n : Nat} (hb : C.P.bytesOf t = 8) (h : n ≤ 17592186044416) : roomP C t n := by
  unfold roomP
  rw [hb]
  omega
theorem len_i64 {α : Type} {l : List α} (h : l.length ≤ maxLen) : l.length ≤ 9223372036854775807 := h
theorem ssV0 : SpecSound V0 := mkctx_sound trivial trivial

theorem valid_ok {m : Int} (v : List Int) (hlen : v.length ≤ 9223372036854775807) (hm : m = 1000 ∨ m = 2000) :
    ∃ (I : Int → Prop), ∃ (μ : Int → Nat), I (0 : Int) ∧ ∀ (x : Int), I x → (decide (x < (↑v.length : Int)) = true →
      ((0 : Int) ≤ x ∧ x < (↑v.length : Int)) ∧ (decide (v.getD x.toNat (0 : Int) < -m) = true → false = vecB m v) ∧ (decide (v.getD x.toNat (0 : Int) < -m) = false → ((0 : Int) ≤ x ∧ x < (↑v.length : Int)) ∧
        (decide (m < v.getD x.toNat (0 : Int)) = true → false = vecB m v) ∧ (decide (m < v.getD x.toNat (0 : Int)) = false → isI64 (x + (1 : Int)) ∧ I (x + (1 : Int)) ∧ μ (x + (1 : Int)) < μ x))) ∧
      (decide (x < (↑v.length : Int)) = false → (decide ((1 : Int) ≤ (↑v.length : Int)) = true → decide ((↑v.length : Int) ≤ (32 : Int)) = vecB m v) ∧ (decide ((1 : Int) ≤ (↑v.length : Int)) = false → false = vecB m v)) := by
  simp only [decide_eq_true_eq, decide_eq_false_iff_not, i64_iff]
  refine ⟨fun i => 0 ≤ i ∧ i ≤ v.length ∧ v.all (coordOk m) = (v.drop i.toNat).all (coordOk m), fun i => ((v.length : Int) - i).toNat, ⟨by omega, by omega, by simp⟩, fun i hI => ?_⟩
  obtain ⟨h0, h1, h2⟩ := hI
  dsimp only
  refine ⟨fun hc => ?_, fun hc => ?_⟩
  · refine ⟨⟨h0, hc⟩, fun hx => (vecB_false (by omega) (coord_false (.inl hx))).symm, fun hx => ⟨⟨h0, hc⟩, fun hy => (vecB_false (by omega) (coord_false (.inr hy))).symm, fun hy => ⟨by omega, ⟨by omega, by omega, ?_⟩, by omega⟩⟩⟩
    rw [h2, drop_step v 0 h0 hc, List.all_cons, coord_true (by omega) (by omega), Bool.true_and]
  · rw [drop_end v hc] at h2
    simp at h2
    refine ⟨fun h => ?_, fun h => ?_⟩
    · unfold vecB
      rw [Bool.eq_iff_iff]
      simp
      exact ⟨fun h' => ⟨h2, by omega, by omega⟩, fun h' => by omega⟩
    · unfold vecB
      rw [Bool.eq_iff_iff]
      simp
      intro _ _
      omega
theorem sat_rValid : Sat Try.prog 9 validSp :=
  sat_nf (C := V0) ssV0 rValid_nf fun (v : List Int) hk _ => (valid_ok v (len_i64 hk.1) (.inl rfl))
theorem sat_rMetric : Sat Try.prog 23 metricSp := by
  refine sat_nf (C := V0) ssV0 rMetric_nf fun (m : Int) hk _ => ?_
  refine ⟨fun h => ?_, fun h => ?_⟩ <;> simp [h]
def dotI (a b : List Int) (x : Int × Int) : Prop := 0 ≤ x.2 ∧ x.2 ≤ a.length ∧ -(x.2 * 64000000) ≤ x.1 ∧ x.1 ≤ x.2 * 64000000 ∧ dotS a b = x.1 + dotS (a.drop x.2.toNat) (b.drop x.2.toNat)
theorem dotI_step {a b : List Int} {x : Int × Int} (h : dotI a b x) (ha : small 64 8000 a) (hb : small 64 8000 b) (hl : a.length = b.length) (hc : x.2 < a.length) :
    dotI a b (x.1 + a.getD x.2.toNat 0 * b.getD x.2.toNat 0, x.2 + 1) ∧ isI64 (a.getD x.2.toNat 0 * b.getD x.2.toNat 0) ∧ isI64 (x.1 + a.getD x.2.toNat 0 * b.getD x.2.toNat 0) ∧ isI64 (x.2 + 1) := by
  obtain ⟨h0, h1, h2, h3, h4⟩ := h
  have m1 := ha.2 _ (Go.PL.getD_mem a 0 (i := x.2.toNat) (by omega))
  have m2 := hb.2 _ (Go.PL.getD_mem b 0 (i := x.2.toNat) (by omega))
  have hm := mul_size m1 m2
  have hal := ha.1
  rw [drop_step a 0 h0 hc, drop_step b 0 h0 (by omega), dotS] at h4
  generalize a.getD x.2.toNat 0 * b.getD x.2.toNat 0 = z at *
  exact ⟨⟨by dsimp only; omega, by dsimp only; omega, by dsimp only; omega, by dsimp only; omega, by rw [h4]; dsimp only; omega⟩, isI64_small (by omega) (by omega), isI64_small (by omega) (by omega), isI64_small (by omega) (by omega)⟩
theorem dotI_end {a b : List Int} {x : Int × Int} (h : dotI a b x) (hc : ¬ x.2 < a.length) : x.1 = dotS a b := by
  obtain ⟨h0, h1, h2, h3, h4⟩ := h
  rw [drop_end a hc, dotS_nil] at h4
  omega
theorem sat_rCompare : Sat Try.prog 47 cmpSp := by
  refine sat_nf (C := V0) ssV0 (fun x => rCompare_nf x.1 x.2) fun (⟨a, b⟩ : List Int × List Int) hk hp => ?_
  try dsimp only
  have hla : a.length ≤ 9223372036854775807 := len_i64 hk.1.1
  simp only [decide_eq_true_eq, decide_eq_false_iff_not, i64_iff]
  refine ⟨fun h => by unfold cmpS; rw [if_pos (by omega)], fun h => ⟨fun h' => by unfold cmpS; rw [if_neg (by omega), if_pos (by omega)], fun h' => ?_⟩⟩
  have hl : a.length = b.length := by omega
  have e : cmpS a b = lexS a b := by unfold cmpS; rw [if_neg (by omega), if_neg (by omega)]
  rw [e]
  refine ⟨fun i => 0 ≤ i ∧ i ≤ a.length ∧ lexS a b = lexS (a.drop i.toNat) (b.drop i.toNat), fun i => ((a.length : Int) - i).toNat, ⟨by omega, by omega, by simp⟩, fun i ⟨h0, h1, h2⟩ => ⟨fun hc => ?_, fun hc => ?_⟩⟩
  · rw [drop_step a 0 h0 hc, drop_step b 0 h0 (by omega), lexS] at h2
    refine ⟨⟨h0, hc⟩, ⟨h0, by omega⟩, fun g => by rw [h2, if_pos g], fun g => ⟨⟨h0, hc⟩, ⟨h0, by omega⟩, fun g' => by rw [h2, if_neg g, if_pos g'], fun g' => ⟨by omega, ⟨by omega, by omega, by rw [h2, if_neg g, if_neg g']⟩, by dsimp only; omega⟩⟩⟩
  · rw [drop_end a hc, drop_end b (by omega), lexS] at h2
    exact h2.symm
end Go.Proofs.Ytdeleoaeegmhlaa
--@drop
namespace Go.PL
open Go.AM
theorem csum_zero (i : Nat) : csum [] i = 0 := rfl
theorem take_all {α : Type} (l : List α) {k : Int} (h : ¬ k < (l.length : Int)) : l.take k.toNat = l := List.take_of_length_le (by omega)
theorem getD_replicate0 (n i : Nat) : (List.replicate n (0 : Int)).getD i 0 = 0 := by
  rw [List.getD_eq_getElem?_getD, List.getElem?_replicate]
  split <;> rfl
theorem range_snoc (f : Nat → Int) {k : Int} (h : 0 ≤ k) : (List.range (k + 1).toNat).map f = (List.range k.toNat).map f ++ [f k.toNat] := by
  rw [show (k + 1).toNat = k.toNat + 1 by omega, List.range_succ, List.map_append]
  rfl
end Go.PL
namespace Go.Proofs.Ytdeleoaeegmhlaa
open Go.AM Go.PL
set_option linter.unusedVariables false

theorem has_errno {n : Int} (h : IntKind.i64.has n) : isI64 n := has_i64.1 h
theorem valid_step {v : List Int} {x : Bool × Int} {r : Bool} (h0 : 0 ≤ x.2) (hc : x.2 < v.length) (h2 : v.all (coordOk 1000) = (x.1 && (v.drop x.2.toNat).all (coordOk 1000))) (hr : r = (x.1 && coordOk 1000 (v.getD x.2.toNat 0))) :
    v.all (coordOk 1000) = (r && (v.drop (x.2 + 1).toNat).all (coordOk 1000)) := by
  rw [h2, hr, drop_step v 0 h0 hc, List.all_cons, Bool.and_assoc]
theorem valid_lp (v : List Int) (hlen : v.length ≤ 9223372036854775807) : ∃ (I : Bool × Int → Prop), ∃ (μ : Bool × Int → Nat), I (true, (0 : Int)) ∧ ∀ (x : Bool × Int), I x → (decide (x.snd <
  (↑v.length : Int)) = true → ((0 : Int) ≤ x.snd ∧ x.snd < (↑v.length : Int)) ∧ (x.fst = true → (decide ((-1000 : Int) ≤ v.getD x.snd.toNat (0 : Int)) = true → isI64 (x.snd + (1 :
  Int)) ∧ I (decide (v.getD x.snd.toNat (0 : Int) ≤ (1000 : Int)), x.snd + (1 : Int)) ∧ μ (decide (v.getD x.snd.toNat (0 : Int) ≤ (1000 : Int)), x.snd + (1 : Int)) < μ x) ∧ (decide
  ((-1000 : Int) ≤ v.getD x.snd.toNat (0 : Int)) = false → isI64 (x.snd + (1 : Int)) ∧ I (false, x.snd + (1 : Int)) ∧ μ (false, x.snd + (1 : Int)) < μ x)) ∧ (x.fst = false → isI64
  (x.snd + (1 : Int)) ∧ I (false, x.snd + (1 : Int)) ∧ μ (false, x.snd + (1 : Int)) < μ x)) ∧ (decide (x.snd < (↑v.length : Int)) = false → (x.fst = true → (decide ((1 : Int) ≤
  (↑v.length : Int)) = true → decide ((↑v.length : Int) ≤ (32 : Int)) = vecOk v) ∧ (decide ((1 : Int) ≤ (↑v.length : Int)) = false → false = vecOk v)) ∧ (x.fst = false → false =
  vecOk v)) := by
  refine ⟨fun x => 0 ≤ x.2 ∧ x.2 ≤ v.length ∧ v.all (coordOk 1000) = (x.1 && (v.drop x.2.toNat).all (coordOk 1000)), fun x => ((v.length : Int) - x.2).toNat, ⟨by simp, by simp, by simp⟩, fun x ⟨h0, h1, h2⟩ => ⟨fun hc => ?_, fun hc => ?_⟩⟩
  · have hc := of_decide_eq_true hc
    have h3 : isI64 (x.2 + 1) := i64_iff.2 (by omega)
    refine ⟨⟨h0, hc⟩, fun hx => ⟨fun g => ⟨h3, ⟨by dsimp only; omega, by dsimp only; omega, ?_⟩, by dsimp only; omega⟩, fun g => ⟨h3, ⟨by dsimp only; omega, by dsimp only; omega, ?_⟩, by dsimp only; omega⟩⟩, fun hx => ⟨h3, ⟨by dsimp only; omega, by dsimp only; omega, ?_⟩, by dsimp only; omega⟩⟩
    · exact valid_step h0 hc h2 (by rw [hx]; unfold coordOk; rw [g]; simp)
    · exact valid_step h0 hc h2 (by unfold coordOk; rw [g]; simp)
    · exact valid_step h0 hc h2 (by rw [hx]; rfl)
  · have hc := of_decide_eq_false hc
    rw [drop_end v hc] at h2
    simp only [List.all_nil, Bool.and_true] at h2
    unfold vecOk vecB
    rw [h2]
    refine ⟨fun hx => ⟨fun g => ?_, fun g => ?_⟩, fun hx => by rw [hx]; rfl⟩
    · have g := of_decide_eq_true g
      rw [hx, Bool.true_and, decide_eq_true (show 1 ≤ v.length by omega), Bool.true_and, decide_eq_decide]
      omega
    · have g := of_decide_eq_false g
      rw [hx, Bool.true_and, decide_eq_false (show ¬ 1 ≤ v.length by omega)]; rfl
theorem sat_cmp1 : Sat Try.prog 56 cmp1Sp := by
  refine sat_nf (C := V0) ssV0 (fun x => cmp1_nf x.1 x.2) fun (⟨a, b⟩ : Int × Int) hk _ => ?_
  try dsimp only
  refine ⟨fun h => by simp at h, fun _ => ⟨fun h => by simp at h, fun _ => ⟨fun h => ?_, fun h => ⟨fun h' => ?_, fun h' => ?_⟩⟩⟩⟩ <;> unfold sgnS
  · rw [if_pos (of_decide_eq_true h)]
  · rw [if_neg (of_decide_eq_false h), if_pos (of_decide_eq_true h')]
  · rw [if_neg (of_decide_eq_false h), if_neg (of_decide_eq_false h')]
theorem sat_clone : SatG Try.prog 33 cloneG := by
  refine fnwpG_sat (C := V0) ssV0 5 33 cloneG fun (v : List Int) hk hp => ?_
  rw [clone_nf]
  have hp : v.length ≤ 1000000 := hp
  exact fun b hb => ⟨fun h => (hb h).symm, fun _ => ⟨room8 bytesI8 (by omega), rfl⟩⟩
theorem sat_norm : Sat Try.prog 57 normSp := by
  refine sat_nf (C := V0) ssV0 (fun x => norm_nf x.1 x.2) fun (⟨m, v⟩ : Int × List Int) hk hp => ?_
  try dsimp only
  obtain ⟨hm1, hm2, hl, hx⟩ : 1 ≤ m ∧ m ≤ 3 ∧ small 64 8000 v := hp
  have step := fun {x : Int × Int} (hI : normI m v x) (hc : x.2 < v.length) => normI_step hI hx hl hc
  refine ⟨fun hm => ?_, fun hn => ⟨fun hm => ?_, fun hn2 => ⟨fun hm => ?_, fun hn3 => absurd hm2 (by omega)⟩⟩⟩ <;>
    refine ⟨normI m v, fun x => ((v.length : Int) - x.2).toNat, normI_zero m v, fun x hI => ⟨fun hc => ?_, fun hc => normI_end hI (of_decide_eq_false hc)⟩⟩ <;>
    have hc := of_decide_eq_true hc <;> have h0 := hI.1 <;> obtain ⟨g1, g2, g3, g4, g5, g6, g7⟩ := step hI hc
  · have e : normStep m x.1 (v.getD x.2.toNat 0) = x.1 + max (v.getD x.2.toNat 0) (0 - v.getD x.2.toNat 0) := by unfold normStep sizeS; rw [if_pos hm]; omega
    rw [e] at g1 g2 g3
    exact ⟨⟨h0, hc⟩, isI64_small (by omega) (by omega), isI64_small (by omega) (by omega), isI64_small (by omega) (by omega), g1, by dsimp only; omega⟩
  · have e : normStep m x.1 (v.getD x.2.toNat 0) = x.1 + v.getD x.2.toNat 0 * v.getD x.2.toNat 0 := by unfold normStep; rw [if_neg hn, if_pos hm]
    rw [e] at g1 g2 g3
    exact ⟨⟨h0, hc⟩, isI64_small (by omega) (by omega), isI64_small (by omega) (by omega), isI64_small (by omega) (by omega), g1, by dsimp only; omega⟩
  · have e : normStep m x.1 (v.getD x.2.toNat 0) = max (max x.1 (v.getD x.2.toNat 0)) (0 - v.getD x.2.toNat 0) := by unfold normStep sizeS; rw [if_neg hn, if_neg hn2]; omega
    rw [e] at g1 g2 g3
    exact ⟨⟨h0, hc⟩, isI64_small (by omega) (by omega), isI64_small (by omega) (by omega), g1, by dsimp only; omega⟩
/-- All the same, every row's mean. -/
theorem meanDone {l : List (List Int)} {o : List Int} (hn : o.length = (l.getD 0 []).length) (h : ∀ i, i < (l.getD 0 []).length → o.getD i 0 = csum l i / (l.length : Int)) : o = meanS l :=
  ext_getD (by rw [hn, meanS_length]) fun i hi => by rw [h i (by omega), meanS_getD l (by omega)]
theorem ssV1 : SpecSound V1 := mkctx_sound ⟨sat_rValid, trivial⟩ ⟨sat_clone, trivial⟩
end Go.Proofs.Ytdeleoaeegmhlaa
--@drop
namespace Go.PL
theorem nd_t {p : Prop} [Decidable p] (h : (!decide p) = true) : ¬ p := fun e => by rw [decide_eq_true e] at h; cases h
theorem nd_f {p : Prop} [Decidable p] (h : (!decide p) = false) : p := by
  by_cases e : p
  · exact e
  · rw [decide_eq_false e] at h; cases h
end Go.PL
namespace Go.Proofs.Ytdeleoaeegmhlaa
open Go.AM Go.PL
set_option linter.unusedVariables false

theorem lex_ok (a b : List Int) (hla : a.length ≤ 9223372036854775807) : ∃ (I : Int → Prop), ∃ (μ : Int → Nat), I (0 : Int) ∧ ∀ (x : Int), I x → (decide (x < (↑a.length : Int)) = true → ((0 : Int) ≤ x ∧ x < (↑a.length : Int)) ∧
    (decide ((↑b.length : Int) ≤ x) = true → (1 : Int) = lexS a b) ∧ (decide ((↑b.length : Int) ≤ x) = false → ((0 : Int) ≤ x ∧ x < (↑b.length : Int)) ∧ True ∧
    ((!decide (sgnS (a.getD x.toNat (0 : Int)) (b.getD x.toNat (0 : Int)) = (0 : Int))) = true → sgnS (a.getD x.toNat (0 : Int)) (b.getD x.toNat (0 : Int)) = lexS a b) ∧
    ((!decide (sgnS (a.getD x.toNat (0 : Int)) (b.getD x.toNat (0 : Int)) = (0 : Int))) = false → isI64 (x + (1 : Int)) ∧ I (x + (1 : Int)) ∧ μ (x + (1 : Int)) < μ x))) ∧
    (decide (x < (↑a.length : Int)) = false → (decide ((↑a.length : Int) < (↑b.length : Int)) = true → (-1 : Int) = lexS a b) ∧ (decide ((↑a.length : Int) < (↑b.length : Int)) = false → (0 : Int) = lexS a b)) := by
  refine ⟨fun i => 0 ≤ i ∧ i ≤ a.length ∧ i ≤ b.length ∧ lexS a b = lexS (a.drop i.toNat) (b.drop i.toNat), fun i => ((a.length : Int) - i).toNat, ⟨by omega, by omega, by omega, by simp⟩, fun i ⟨h0, h1, h1b, h2⟩ => ⟨fun hc => ?_, fun hc => ?_⟩⟩
  · have hc := of_decide_eq_true hc
    rw [drop_step a 0 h0 hc] at h2
    refine ⟨⟨h0, hc⟩, fun g => ?_, fun g => ?_⟩
    · have g := of_decide_eq_true g
      rw [drop_end b (by omega), lexS] at h2
      exact h2.symm
    · have g := of_decide_eq_false g
      rw [drop_step b 0 h0 (by omega), lexS_cons] at h2
      refine ⟨⟨h0, by omega⟩, trivial, fun q => ?_, fun q => ?_⟩
      · rw [if_neg (by simpa using q)] at h2
        exact h2.symm
      · rw [if_pos (by simpa using q)] at h2
        exact ⟨i64_iff.2 (by omega), ⟨by omega, by omega, by omega, h2⟩, by dsimp only; omega⟩
  · have hc := of_decide_eq_false hc
    rw [drop_end a hc] at h2
    refine ⟨fun g => ?_, fun g => ?_⟩
    · have g := of_decide_eq_true g
      rw [drop_step b 0 h0 (by omega), lexS] at h2
      exact h2.symm
    · have g := of_decide_eq_false g
      rw [drop_end b (by omega), lexS] at h2
      exact h2.symm
theorem sub_ok {a b : List Int} (h : small 64 4000 a ∧ small 64 4000 b ∧ a.length = b.length) : small 64 8000 (subS a b) :=
  ⟨by rw [subS_length h.2.2]; exact h.1.1, subS_small (c := 4000) (d := 4000) h.1.2 h.2.1.2⟩
theorem sat_sub : Sat Try.prog 58 subSp := by
  refine sat_nf (C := V1) ssV1 (fun x => sub_nf x.1 x.2) fun (⟨a, b⟩ : List Int × List Int) hk hp => ?_
  obtain ⟨ha, hb, hl⟩ : small 64 4000 a ∧ small 64 4000 b ∧ a.length = b.length := hp
  have hal := ha.1
  dsimp only
  refine ⟨by omega, fun x => 0 ≤ x.2 ∧ x.2 ≤ a.length ∧ x.1.length = a.length ∧ ∀ i, i < a.length → x.1.getD i 0 = if (i : Int) < x.2 then a.getD i 0 - b.getD i 0 else a.getD i 0, fun x => ((a.length : Int) - x.2).toNat,
    ⟨by dsimp only; omega, by dsimp only; omega, rfl, fun i hi => by rw [if_neg (by dsimp only; omega)]⟩, fun ⟨o, j⟩ ⟨h0, h1, h2, h3⟩ => ⟨fun hc => ?_, fun hc => ?_⟩⟩
  · dsimp only at h0 h1 h2 h3 hc ⊢
    have hc := of_decide_eq_true hc
    have e := h3 j.toNat (by omega)
    rw [if_neg (by omega)] at e
    have m1 := getD_small ha (by omega) j.toNat
    have m2 := getD_small hb (by omega) j.toNat
    rw [e]
    refine ⟨⟨h0, by omega⟩, ⟨h0, by omega⟩, isI64_small (by omega) (by omega), ⟨h0, by omega⟩, isI64_small (by omega) (by omega), ⟨by omega, by omega, by simpa using h2, fun i hi => ?_⟩, by omega⟩
    by_cases hij : i = j.toNat
    · subst hij
      rw [getD_set_self _ (by omega), if_pos (by omega)]
    · rw [Go.PL.getD_set_ne _ hij, h3 i hi]
      by_cases hlt : (i : Int) < j
      · rw [if_pos hlt, if_pos (by omega)]
      · rw [if_neg hlt, if_neg (by omega)]
  · dsimp only at h0 h1 h2 h3 hc ⊢
    have hc := of_decide_eq_false hc
    exact ext_getD (by rw [subS_length hl, h2]) fun i hi => by rw [h3 i (by omega), if_pos (by omega), subS_getD hl (by omega)]
theorem alike_ok {a b : List Int} : alikeB a b = (decide ((a.length : Int) = (b.length : Int)) && (vecOk a && vecOk b)) := by
  unfold alikeB
  have : decide (a.length = b.length) = decide ((a.length : Int) = (b.length : Int)) := by rw [decide_eq_decide]; omega
  rw [this]
  cases decide ((a.length : Int) = (b.length : Int)) <;> cases vecOk a <;> cases vecOk b <;> rfl
theorem sat_rAlike : Sat Try.prog 22 alikeSp := by
  refine sat_nf (C := V1) ssV1 (fun x => rAlike_nf x.1 x.2) fun (⟨a, b⟩ : List Int × List Int) hk hp => ?_
  dsimp only
  rw [alike_ok]
  refine ⟨trivial, fun h => ⟨trivial, fun h' => ?_, fun h' => ?_⟩, fun h => ?_⟩
  · rw [h, h']; simp
  · rw [h, h']; simp
  · rw [h]; simp
theorem ssV2 : SpecSound V2 := mkctx_sound ⟨sat_rAlike, sat_sub, sat_norm, trivial⟩ trivial
theorem sat_key : Sat Try.prog 25 keySp :=
  sat_nf (C := V2) ssV2 (fun x => key_nf x.1 x.2.1 x.2.2) fun ⟨m, a, b⟩ hk hp => ⟨hp.2.2, ⟨hp.1, hp.2.1, sub_ok hp.2.2⟩, rfl⟩
end Go.Proofs.Ytdeleoaeegmhlaa
