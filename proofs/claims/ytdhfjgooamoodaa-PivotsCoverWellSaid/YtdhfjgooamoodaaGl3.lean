import Derived.Test.YtdhfjgooamoodaaGl
namespace Go.Proofs.Ytdhfjgooamoodaa
open Go.AM Go.PL
set_option linter.unusedVariables false
def hintP3 (f : FuncId) : Hint := ⟨loopsP f, fun _ => .split, fun _ => .split, fun r => bif Nat.beq r 14 && Nat.beq f 5 then 500 else 0⟩
noncomputable def GL3 : Ctx := mkctx bs tG6 [] hintP3
theorem law3_nf (m : Int) (l : List (List Int)) (w : Int) (c : List Int) : fnwp GL3 6 5 (lawSp [I, LL, U8, BY]) (m, l, w, c) = (True ∧ ((!few40 l (30 : Int)) = true → True ∧ true =
  true) ∧ ((!few40 l (30 : Int)) = false → True ∧ ((!(decide ((1 : Int) ≤ m) && decide (m ≤ (3 : Int)))) = true → True ∧ true = true) ∧ ((!(decide ((1 : Int) ≤ m) && decide (m ≤ (3
  : Int)))) = false → True ∧ ((!fitB l) = true → True ∧ true = true) ∧ ((!fitB l) = false → (8 : Int) ≠ (0 : Int) ∧ isI64 ((1 : Int) + (IntKind.i64.wrap w).tmod (8 : Int)) ∧ True ∧
  ((!decide ((chooseR m l ((1 : Int) + (IntKind.i64.wrap w).tmod (8 : Int))).snd = (0 : Int))) = true → false = true) ∧ ((!decide ((chooseR m l ((1 : Int) + (IntKind.i64.wrap
  w).tmod (8 : Int))).snd = (0 : Int))) = false → (decide ((↑(chooseR m l ((1 : Int) + (IntKind.i64.wrap w).tmod (8 : Int))).fst.length : Int) < (1 : Int)) = true → false = true) ∧
  (decide ((↑(chooseR m l ((1 : Int) + (IntKind.i64.wrap w).tmod (8 : Int))).fst.length : Int) < (1 : Int)) = false → (decide ((1 : Int) + (IntKind.i64.wrap w).tmod (8 : Int) <
  (↑(chooseR m l ((1 : Int) + (IntKind.i64.wrap w).tmod (8 : Int))).fst.length : Int)) = true → false = true) ∧ (decide ((1 : Int) + (IntKind.i64.wrap w).tmod (8 : Int) <
  (↑(chooseR m l ((1 : Int) + (IntKind.i64.wrap w).tmod (8 : Int))).fst.length : Int)) = false → ((0 : Int) ≤ (0 : Int) ∧ (0 : Int) < (↑(chooseR m l ((1 : Int) + (IntKind.i64.wrap
  w).tmod (8 : Int))).fst.length : Int)) ∧ ((!decide ((chooseR m l ((1 : Int) + (IntKind.i64.wrap w).tmod (8 : Int))).fst.getD (0 : Nat) (0 : Int) = (0 : Int))) = true → false =
  true) ∧ ((!decide ((chooseR m l ((1 : Int) + (IntKind.i64.wrap w).tmod (8 : Int))).fst.getD (0 : Nat) (0 : Int) = (0 : Int))) = false → ∃ (I : List (List Int) × Int → Prop), ∃ (μ
  : List (List Int) × Int → Nat), I ([], (0 : Int)) ∧ ∀ (x : List (List Int) × Int), I x → (decide (x.snd < (↑(chooseR m l ((1 : Int) + (IntKind.i64.wrap w).tmod (8 :
  Int))).fst.length : Int)) = true → ((0 : Int) ≤ x.snd ∧ x.snd < (↑(chooseR m l ((1 : Int) + (IntKind.i64.wrap w).tmod (8 : Int))).fst.length : Int)) ∧ (decide ((chooseR m l ((1 :
  Int) + (IntKind.i64.wrap w).tmod (8 : Int))).fst.getD x.snd.toNat (0 : Int) < (0 : Int)) = true → false = true) ∧ (decide ((chooseR m l ((1 : Int) + (IntKind.i64.wrap w).tmod (8
  : Int))).fst.getD x.snd.toNat (0 : Int) < (0 : Int)) = false → ((0 : Int) ≤ x.snd ∧ x.snd < (↑(chooseR m l ((1 : Int) + (IntKind.i64.wrap w).tmod (8 : Int))).fst.length : Int)) ∧
  (decide ((↑l.length : Int) ≤ (chooseR m l ((1 : Int) + (IntKind.i64.wrap w).tmod (8 : Int))).fst.getD x.snd.toNat (0 : Int)) = true → false = true) ∧ (decide ((↑l.length : Int) ≤
  (chooseR m l ((1 : Int) + (IntKind.i64.wrap w).tmod (8 : Int))).fst.getD x.snd.toNat (0 : Int)) = false → ((0 : Int) ≤ x.snd ∧ x.snd < (↑(chooseR m l ((1 : Int) +
  (IntKind.i64.wrap w).tmod (8 : Int))).fst.length : Int)) ∧ ((0 : Int) ≤ (chooseR m l ((1 : Int) + (IntKind.i64.wrap w).tmod (8 : Int))).fst.getD x.snd.toNat (0 : Int) ∧ (chooseR
  m l ((1 : Int) + (IntKind.i64.wrap w).tmod (8 : Int))).fst.getD x.snd.toNat (0 : Int) < (↑l.length : Int)) ∧ roomP GL3 (23 : Nat) (x.fst.length + [l.getD ((chooseR m l ((1 : Int)
  + (IntKind.i64.wrap w).tmod (8 : Int))).fst.getD x.snd.toNat (0 : Int)).toNat []].length) ∧ isI64 (x.snd + (1 : Int)) ∧ I (x.fst ++ [l.getD ((chooseR m l ((1 : Int) +
  (IntKind.i64.wrap w).tmod (8 : Int))).fst.getD x.snd.toNat (0 : Int)).toNat []], x.snd + (1 : Int)) ∧ μ (x.fst ++ [l.getD ((chooseR m l ((1 : Int) + (IntKind.i64.wrap w).tmod (8
  : Int))).fst.getD x.snd.toNat (0 : Int)).toNat []], x.snd + (1 : Int)) < μ x))) ∧ (decide (x.snd < (↑(chooseR m l ((1 : Int) + (IntKind.i64.wrap w).tmod (8 : Int))).fst.length :
  Int)) = false → True ∧ ((!decide ((coverR m x.fst l).snd = (0 : Int))) = true → false = true) ∧ ((!decide ((coverR m x.fst l).snd = (0 : Int))) = false → (decide ((↑(chooseR m l
  ((1 : Int) + (IntKind.i64.wrap w).tmod (8 : Int))).fst.length : Int) < (1 : Int) + (IntKind.i64.wrap w).tmod (8 : Int)) = true → ((!decide ((coverR m x.fst l).fst = (0 : Int))) =
  true → false = true) ∧ ((!decide ((coverR m x.fst l).fst = (0 : Int))) = false → ∃ (I : Int → Prop), ∃ (μ : Int → Nat), I (0 : Int) ∧ ∀ (x_1 : Int), I x_1 → (decide (x_1 <
  (↑x.fst.length : Int)) = true → ∃ (I_1 : Int → Prop), ∃ (μ_1 : Int → Nat), I_1 (0 : Int) ∧ ∀ (x_2 : Int), I_1 x_2 → (decide (x_2 < x_1) = true → ((0 : Int) ≤ x_1 ∧ x_1 <
  (↑x.fst.length : Int)) ∧ ((0 : Int) ≤ x_2 ∧ x_2 < (↑x.fst.length : Int)) ∧ ((1 : Int) ≤ m ∧ m ≤ (3 : Int) ∧ small (64 : Nat) (4000 : Int) (x.fst.getD x_1.toNat []) ∧ small (64 :
  Nat) (4000 : Int) (x.fst.getD x_2.toNat []) ∧ (x.fst.getD x_1.toNat []).length = (x.fst.getD x_2.toNat []).length) ∧ (decide (keyS m (x.fst.getD x_1.toNat []) (x.fst.getD
  x_2.toNat []) = (0 : Int)) = true → false = true) ∧ (decide (keyS m (x.fst.getD x_1.toNat []) (x.fst.getD x_2.toNat []) = (0 : Int)) = false → (decide (keyS m (x.fst.getD
  x_1.toNat []) (x.fst.getD x_2.toNat []) < (coverR m x.fst l).fst) = true → false = true) ∧ (decide (keyS m (x.fst.getD x_1.toNat []) (x.fst.getD x_2.toNat []) < (coverR m x.fst
  l).fst) = false → isI64 (x_2 + (1 : Int)) ∧ I_1 (x_2 + (1 : Int)) ∧ μ_1 (x_2 + (1 : Int)) < μ_1 x_2))) ∧ (decide (x_2 < x_1) = false → isI64 (x_1 + (1 : Int)) ∧ I (x_1 + (1 :
  Int)) ∧ μ (x_1 + (1 : Int)) < μ x_1)) ∧ (decide (x_1 < (↑x.fst.length : Int)) = false → ((1 : Nat) ≤ l.length ∧ (1 : Int) + (IntKind.i64.wrap w).tmod (8 : Int) ≤ (8 : Int)) ∧
  True ∧ True ∧ (true = true → (decide ((coverR m (someS l c ((1 : Int) + (IntKind.i64.wrap w).tmod (8 : Int))) l).snd = (0 : Int)) = true → (keyP (coverR m (someS l c ((1 : Int) +
  (IntKind.i64.wrap w).tmod (8 : Int))) l).fst ∧ keyP (coverR m (someS l c ((1 : Int) + (IntKind.i64.wrap w).tmod (8 : Int))) l).fst) ∧ decide ((coverR m x.fst l).fst ≤ highS m
  (coverR m (someS l c ((1 : Int) + (IntKind.i64.wrap w).tmod (8 : Int))) l).fst (coverR m (someS l c ((1 : Int) + (IntKind.i64.wrap w).tmod (8 : Int))) l).fst) = true) ∧ (decide
  ((coverR m (someS l c ((1 : Int) + (IntKind.i64.wrap w).tmod (8 : Int))) l).snd = (0 : Int)) = false → false = true)) ∧ (true = false → false = true)))) ∧ (decide ((↑(chooseR m l
  ((1 : Int) + (IntKind.i64.wrap w).tmod (8 : Int))).fst.length : Int) < (1 : Int) + (IntKind.i64.wrap w).tmod (8 : Int)) = false → ∃ (I : Int → Prop), ∃ (μ : Int → Nat), I (0 :
  Int) ∧ ∀ (x_1 : Int), I x_1 → (decide (x_1 < (↑x.fst.length : Int)) = true → ∃ (I_1 : Int → Prop), ∃ (μ_1 : Int → Nat), I_1 (0 : Int) ∧ ∀ (x_2 : Int), I_1 x_2 → (decide (x_2 <
  x_1) = true → ((0 : Int) ≤ x_1 ∧ x_1 < (↑x.fst.length : Int)) ∧ ((0 : Int) ≤ x_2 ∧ x_2 < (↑x.fst.length : Int)) ∧ ((1 : Int) ≤ m ∧ m ≤ (3 : Int) ∧ small (64 : Nat) (4000 : Int)
  (x.fst.getD x_1.toNat []) ∧ small (64 : Nat) (4000 : Int) (x.fst.getD x_2.toNat []) ∧ (x.fst.getD x_1.toNat []).length = (x.fst.getD x_2.toNat []).length) ∧ (decide (keyS m
  (x.fst.getD x_1.toNat []) (x.fst.getD x_2.toNat []) = (0 : Int)) = true → false = true) ∧ (decide (keyS m (x.fst.getD x_1.toNat []) (x.fst.getD x_2.toNat []) = (0 : Int)) = false
  → (decide (keyS m (x.fst.getD x_1.toNat []) (x.fst.getD x_2.toNat []) < (coverR m x.fst l).fst) = true → false = true) ∧ (decide (keyS m (x.fst.getD x_1.toNat []) (x.fst.getD
  x_2.toNat []) < (coverR m x.fst l).fst) = false → isI64 (x_2 + (1 : Int)) ∧ I_1 (x_2 + (1 : Int)) ∧ μ_1 (x_2 + (1 : Int)) < μ_1 x_2))) ∧ (decide (x_2 < x_1) = false → isI64 (x_1
  + (1 : Int)) ∧ I (x_1 + (1 : Int)) ∧ μ (x_1 + (1 : Int)) < μ x_1)) ∧ (decide (x_1 < (↑x.fst.length : Int)) = false → ((1 : Nat) ≤ l.length ∧ (1 : Int) + (IntKind.i64.wrap w).tmod
  (8 : Int) ≤ (8 : Int)) ∧ True ∧ True ∧ (true = true → (decide ((coverR m (someS l c ((1 : Int) + (IntKind.i64.wrap w).tmod (8 : Int))) l).snd = (0 : Int)) = true → (keyP (coverR
  m (someS l c ((1 : Int) + (IntKind.i64.wrap w).tmod (8 : Int))) l).fst ∧ keyP (coverR m (someS l c ((1 : Int) + (IntKind.i64.wrap w).tmod (8 : Int))) l).fst) ∧ decide ((coverR m
  x.fst l).fst ≤ highS m (coverR m (someS l c ((1 : Int) + (IntKind.i64.wrap w).tmod (8 : Int))) l).fst (coverR m (someS l c ((1 : Int) + (IntKind.i64.wrap w).tmod (8 : Int)))
  l).fst) = true) ∧ (decide ((coverR m (someS l c ((1 : Int) + (IntKind.i64.wrap w).tmod (8 : Int))) l).snd = (0 : Int)) = false → false = true)) ∧ (true = false → false =
  true))))))))))))) := by kernel_rfl
end Go.Proofs.Ytdhfjgooamoodaa
