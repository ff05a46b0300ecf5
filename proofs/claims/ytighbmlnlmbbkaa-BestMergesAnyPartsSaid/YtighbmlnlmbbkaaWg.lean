import Derived.Test.YtighbmlnlmbbkaaWf
--@drop
namespace Go.Proofs.Ytighbmlnlmbbkaa
open Go.AM Go.PL
set_option linter.unusedVariables false

noncomputable def X1 : Ctx := mkctx bs [(58, getIntSp), (61, getIntSp)] [] hintX
noncomputable def X2 : Ctx := mkctx bs [(58, getIntSp), (61, getIntSp), (68, lenSp), (60, lenSp)] [] hintX
noncomputable def X3 : Ctx := mkctx bs [(58, getIntSp), (61, getIntSp), (68, lenSp), (60, lenSp)
  ] [] hintX
theorem rGetInt_nf (b : List Int) : fnwp W0 5 61 getIntSp b = (∃ (I : Int → Prop), ∃ (μ : Int → Nat), I (0 : Int) ∧ ∀ (x : Int), I x → (decide (x < (↑b.length : Int)) = true →
  (decide (x < (10 : Int)) = true → ((0 : Int) ≤ x ∧ x < (↑b.length : Int)) ∧ (decide ((128 : Int) ≤ b.getD x.toNat (0 : Int)) = true → isI64 (x + (1 : Int)) ∧ I (x + (1 : Int)) ∧
  μ (x + (1 : Int)) < μ x) ∧ (decide ((128 : Int) ≤ b.getD x.toNat (0 : Int)) = false → (decide (x = (10 : Int)) = true → ((0 : Int), (0 : Int), (11 : Int)) = decO (decI b)) ∧
  (decide (x = (10 : Int)) = false → (decide (x = (↑b.length : Int)) = true → ((0 : Int), (0 : Int), (10 : Int)) = decO (decI b)) ∧ (decide (x = (↑b.length : Int)) = false →
  (decide (x = (9 : Int)) = true → ((0 : Int) ≤ x ∧ x < (↑b.length : Int)) ∧ (decide ((1 : Int) < b.getD x.toNat (0 : Int)) = true → ((0 : Int), (0 : Int), (11 : Int)) = decO (decI
  b)) ∧ (decide ((1 : Int) < b.getD x.toNat (0 : Int)) = false → (decide ((0 : Int) < x) = true → ((0 : Int) ≤ x ∧ x < (↑b.length : Int)) ∧ (decide (b.getD x.toNat (0 : Int) = (0 :
  Int)) = true → ((0 : Int), (0 : Int), (11 : Int)) = decO (decI b)) ∧ (decide (b.getD x.toNat (0 : Int) = (0 : Int)) = false → ∃ (I : Int × Int → Prop), ∃ (μ : Int × Int → Nat), I
  ((0 : Int), x) ∧ ∀ (x_1 : Int × Int), I x_1 → (decide ((0 : Int) ≤ x_1.snd) = true → ((0 : Int) ≤ x_1.snd ∧ x_1.snd < (↑b.length : Int)) ∧ (128 : Int) ≠ (0 : Int) ∧ isI64
  (x_1.snd - (1 : Int)) ∧ I (IntKind.u64.wrap (IntKind.u64.wrap (x_1.fst * (128 : Int)) + IntKind.u64.wrap ((b.getD x_1.snd.toNat (0 : Int)).tmod (128 : Int))), x_1.snd - (1 :
  Int)) ∧ μ (IntKind.u64.wrap (IntKind.u64.wrap (x_1.fst * (128 : Int)) + IntKind.u64.wrap ((b.getD x_1.snd.toNat (0 : Int)).tmod (128 : Int))), x_1.snd - (1 : Int)) < μ x_1) ∧
  (decide ((0 : Int) ≤ x_1.snd) = false → (2 : Int) ≠ (0 : Int) ∧ (decide (x_1.fst.tmod (2 : Int) = (1 : Int)) = true → (2 : Int) ≠ (0 : Int) ∧ isI64 ((-1 : Int) - IntKind.i64.wrap
  (IntKind.u64.wrap (x_1.fst.tdiv (2 : Int)))) ∧ isI64 (x + (1 : Int)) ∧ ((-1 : Int) - IntKind.i64.wrap (IntKind.u64.wrap (x_1.fst.tdiv (2 : Int))), x + (1 : Int), (0 : Int)) =
  decO (decI b)) ∧ (decide (x_1.fst.tmod (2 : Int) = (1 : Int)) = false → (2 : Int) ≠ (0 : Int) ∧ isI64 (x + (1 : Int)) ∧ (IntKind.i64.wrap (IntKind.u64.wrap (x_1.fst.tdiv (2 :
  Int))), x + (1 : Int), (0 : Int)) = decO (decI b))))) ∧ (decide ((0 : Int) < x) = false → ∃ (I : Int × Int → Prop), ∃ (μ : Int × Int → Nat), I ((0 : Int), x) ∧ ∀ (x_1 : Int ×
  Int), I x_1 → (decide ((0 : Int) ≤ x_1.snd) = true → ((0 : Int) ≤ x_1.snd ∧ x_1.snd < (↑b.length : Int)) ∧ (128 : Int) ≠ (0 : Int) ∧ isI64 (x_1.snd - (1 : Int)) ∧ I
  (IntKind.u64.wrap (IntKind.u64.wrap (x_1.fst * (128 : Int)) + IntKind.u64.wrap ((b.getD x_1.snd.toNat (0 : Int)).tmod (128 : Int))), x_1.snd - (1 : Int)) ∧ μ (IntKind.u64.wrap
  (IntKind.u64.wrap (x_1.fst * (128 : Int)) + IntKind.u64.wrap ((b.getD x_1.snd.toNat (0 : Int)).tmod (128 : Int))), x_1.snd - (1 : Int)) < μ x_1) ∧ (decide ((0 : Int) ≤ x_1.snd) =
  false → (2 : Int) ≠ (0 : Int) ∧ (decide (x_1.fst.tmod (2 : Int) = (1 : Int)) = true → (2 : Int) ≠ (0 : Int) ∧ isI64 ((-1 : Int) - IntKind.i64.wrap (IntKind.u64.wrap (x_1.fst.tdiv
  (2 : Int)))) ∧ isI64 (x + (1 : Int)) ∧ ((-1 : Int) - IntKind.i64.wrap (IntKind.u64.wrap (x_1.fst.tdiv (2 : Int))), x + (1 : Int), (0 : Int)) = decO (decI b)) ∧ (decide
  (x_1.fst.tmod (2 : Int) = (1 : Int)) = false → (2 : Int) ≠ (0 : Int) ∧ isI64 (x + (1 : Int)) ∧ (IntKind.i64.wrap (IntKind.u64.wrap (x_1.fst.tdiv (2 : Int))), x + (1 : Int), (0 :
  Int)) = decO (decI b)))))) ∧ (decide (x = (9 : Int)) = false → (decide ((0 : Int) < x) = true → ((0 : Int) ≤ x ∧ x < (↑b.length : Int)) ∧ (decide (b.getD x.toNat (0 : Int) = (0 :
  Int)) = true → ((0 : Int), (0 : Int), (11 : Int)) = decO (decI b)) ∧ (decide (b.getD x.toNat (0 : Int) = (0 : Int)) = false → ∃ (I : Int × Int → Prop), ∃ (μ : Int × Int → Nat), I
  ((0 : Int), x) ∧ ∀ (x_1 : Int × Int), I x_1 → (decide ((0 : Int) ≤ x_1.snd) = true → ((0 : Int) ≤ x_1.snd ∧ x_1.snd < (↑b.length : Int)) ∧ (128 : Int) ≠ (0 : Int) ∧ isI64
  (x_1.snd - (1 : Int)) ∧ I (IntKind.u64.wrap (IntKind.u64.wrap (x_1.fst * (128 : Int)) + IntKind.u64.wrap ((b.getD x_1.snd.toNat (0 : Int)).tmod (128 : Int))), x_1.snd - (1 :
  Int)) ∧ μ (IntKind.u64.wrap (IntKind.u64.wrap (x_1.fst * (128 : Int)) + IntKind.u64.wrap ((b.getD x_1.snd.toNat (0 : Int)).tmod (128 : Int))), x_1.snd - (1 : Int)) < μ x_1) ∧
  (decide ((0 : Int) ≤ x_1.snd) = false → (2 : Int) ≠ (0 : Int) ∧ (decide (x_1.fst.tmod (2 : Int) = (1 : Int)) = true → (2 : Int) ≠ (0 : Int) ∧ isI64 ((-1 : Int) - IntKind.i64.wrap
  (IntKind.u64.wrap (x_1.fst.tdiv (2 : Int)))) ∧ isI64 (x + (1 : Int)) ∧ ((-1 : Int) - IntKind.i64.wrap (IntKind.u64.wrap (x_1.fst.tdiv (2 : Int))), x + (1 : Int), (0 : Int)) =
  decO (decI b)) ∧ (decide (x_1.fst.tmod (2 : Int) = (1 : Int)) = false → (2 : Int) ≠ (0 : Int) ∧ isI64 (x + (1 : Int)) ∧ (IntKind.i64.wrap (IntKind.u64.wrap (x_1.fst.tdiv (2 :
  Int))), x + (1 : Int), (0 : Int)) = decO (decI b))))) ∧ (decide ((0 : Int) < x) = false → ∃ (I : Int × Int → Prop), ∃ (μ : Int × Int → Nat), I ((0 : Int), x) ∧ ∀ (x_1 : Int ×
  Int), I x_1 → (decide ((0 : Int) ≤ x_1.snd) = true → ((0 : Int) ≤ x_1.snd ∧ x_1.snd < (↑b.length : Int)) ∧ (128 : Int) ≠ (0 : Int) ∧ isI64 (x_1.snd - (1 : Int)) ∧ I
  (IntKind.u64.wrap (IntKind.u64.wrap (x_1.fst * (128 : Int)) + IntKind.u64.wrap ((b.getD x_1.snd.toNat (0 : Int)).tmod (128 : Int))), x_1.snd - (1 : Int)) ∧ μ (IntKind.u64.wrap
  (IntKind.u64.wrap (x_1.fst * (128 : Int)) + IntKind.u64.wrap ((b.getD x_1.snd.toNat (0 : Int)).tmod (128 : Int))), x_1.snd - (1 : Int)) < μ x_1) ∧ (decide ((0 : Int) ≤ x_1.snd) =
  false → (2 : Int) ≠ (0 : Int) ∧ (decide (x_1.fst.tmod (2 : Int) = (1 : Int)) = true → (2 : Int) ≠ (0 : Int) ∧ isI64 ((-1 : Int) - IntKind.i64.wrap (IntKind.u64.wrap (x_1.fst.tdiv
  (2 : Int)))) ∧ isI64 (x + (1 : Int)) ∧ ((-1 : Int) - IntKind.i64.wrap (IntKind.u64.wrap (x_1.fst.tdiv (2 : Int))), x + (1 : Int), (0 : Int)) = decO (decI b)) ∧ (decide
  (x_1.fst.tmod (2 : Int) = (1 : Int)) = false → (2 : Int) ≠ (0 : Int) ∧ isI64 (x + (1 : Int)) ∧ (IntKind.i64.wrap (IntKind.u64.wrap (x_1.fst.tdiv (2 : Int))), x + (1 : Int), (0 :
  Int)) = decO (decI b))))))))) ∧ (decide (x < (10 : Int)) = false → (decide (x = (10 : Int)) = true → ((0 : Int), (0 : Int), (11 : Int)) = decO (decI b)) ∧ (decide (x = (10 :
  Int)) = false → (decide (x = (↑b.length : Int)) = true → ((0 : Int), (0 : Int), (10 : Int)) = decO (decI b)) ∧ (decide (x = (↑b.length : Int)) = false → (decide (x = (9 : Int)) =
  true → ((0 : Int) ≤ x ∧ x < (↑b.length : Int)) ∧ (decide ((1 : Int) < b.getD x.toNat (0 : Int)) = true → ((0 : Int), (0 : Int), (11 : Int)) = decO (decI b)) ∧ (decide ((1 : Int)
  < b.getD x.toNat (0 : Int)) = false → (decide ((0 : Int) < x) = true → ((0 : Int) ≤ x ∧ x < (↑b.length : Int)) ∧ (decide (b.getD x.toNat (0 : Int) = (0 : Int)) = true → ((0 :
  Int), (0 : Int), (11 : Int)) = decO (decI b)) ∧ (decide (b.getD x.toNat (0 : Int) = (0 : Int)) = false → ∃ (I : Int × Int → Prop), ∃ (μ : Int × Int → Nat), I ((0 : Int), x) ∧ ∀
  (x_1 : Int × Int), I x_1 → (decide ((0 : Int) ≤ x_1.snd) = true → ((0 : Int) ≤ x_1.snd ∧ x_1.snd < (↑b.length : Int)) ∧ (128 : Int) ≠ (0 : Int) ∧ isI64 (x_1.snd - (1 : Int)) ∧ I
  (IntKind.u64.wrap (IntKind.u64.wrap (x_1.fst * (128 : Int)) + IntKind.u64.wrap ((b.getD x_1.snd.toNat (0 : Int)).tmod (128 : Int))), x_1.snd - (1 : Int)) ∧ μ (IntKind.u64.wrap
  (IntKind.u64.wrap (x_1.fst * (128 : Int)) + IntKind.u64.wrap ((b.getD x_1.snd.toNat (0 : Int)).tmod (128 : Int))), x_1.snd - (1 : Int)) < μ x_1) ∧ (decide ((0 : Int) ≤ x_1.snd) =
  false → (2 : Int) ≠ (0 : Int) ∧ (decide (x_1.fst.tmod (2 : Int) = (1 : Int)) = true → (2 : Int) ≠ (0 : Int) ∧ isI64 ((-1 : Int) - IntKind.i64.wrap (IntKind.u64.wrap (x_1.fst.tdiv
  (2 : Int)))) ∧ isI64 (x + (1 : Int)) ∧ ((-1 : Int) - IntKind.i64.wrap (IntKind.u64.wrap (x_1.fst.tdiv (2 : Int))), x + (1 : Int), (0 : Int)) = decO (decI b)) ∧ (decide
  (x_1.fst.tmod (2 : Int) = (1 : Int)) = false → (2 : Int) ≠ (0 : Int) ∧ isI64 (x + (1 : Int)) ∧ (IntKind.i64.wrap (IntKind.u64.wrap (x_1.fst.tdiv (2 : Int))), x + (1 : Int), (0 :
  Int)) = decO (decI b))))) ∧ (decide ((0 : Int) < x) = false → ∃ (I : Int × Int → Prop), ∃ (μ : Int × Int → Nat), I ((0 : Int), x) ∧ ∀ (x_1 : Int × Int), I x_1 → (decide ((0 :
  Int) ≤ x_1.snd) = true → ((0 : Int) ≤ x_1.snd ∧ x_1.snd < (↑b.length : Int)) ∧ (128 : Int) ≠ (0 : Int) ∧ isI64 (x_1.snd - (1 : Int)) ∧ I (IntKind.u64.wrap (IntKind.u64.wrap
  (x_1.fst * (128 : Int)) + IntKind.u64.wrap ((b.getD x_1.snd.toNat (0 : Int)).tmod (128 : Int))), x_1.snd - (1 : Int)) ∧ μ (IntKind.u64.wrap (IntKind.u64.wrap (x_1.fst * (128 :
  Int)) + IntKind.u64.wrap ((b.getD x_1.snd.toNat (0 : Int)).tmod (128 : Int))), x_1.snd - (1 : Int)) < μ x_1) ∧ (decide ((0 : Int) ≤ x_1.snd) = false → (2 : Int) ≠ (0 : Int) ∧
  (decide (x_1.fst.tmod (2 : Int) = (1 : Int)) = true → (2 : Int) ≠ (0 : Int) ∧ isI64 ((-1 : Int) - IntKind.i64.wrap (IntKind.u64.wrap (x_1.fst.tdiv (2 : Int)))) ∧ isI64 (x + (1 :
  Int)) ∧ ((-1 : Int) - IntKind.i64.wrap (IntKind.u64.wrap (x_1.fst.tdiv (2 : Int))), x + (1 : Int), (0 : Int)) = decO (decI b)) ∧ (decide (x_1.fst.tmod (2 : Int) = (1 : Int)) =
  false → (2 : Int) ≠ (0 : Int) ∧ isI64 (x + (1 : Int)) ∧ (IntKind.i64.wrap (IntKind.u64.wrap (x_1.fst.tdiv (2 : Int))), x + (1 : Int), (0 : Int)) = decO (decI b)))))) ∧ (decide (x
  = (9 : Int)) = false → (decide ((0 : Int) < x) = true → ((0 : Int) ≤ x ∧ x < (↑b.length : Int)) ∧ (decide (b.getD x.toNat (0 : Int) = (0 : Int)) = true → ((0 : Int), (0 : Int),
  (11 : Int)) = decO (decI b)) ∧ (decide (b.getD x.toNat (0 : Int) = (0 : Int)) = false → ∃ (I : Int × Int → Prop), ∃ (μ : Int × Int → Nat), I ((0 : Int), x) ∧ ∀ (x_1 : Int × Int),
  I x_1 → (decide ((0 : Int) ≤ x_1.snd) = true → ((0 : Int) ≤ x_1.snd ∧ x_1.snd < (↑b.length : Int)) ∧ (128 : Int) ≠ (0 : Int) ∧ isI64 (x_1.snd - (1 : Int)) ∧ I (IntKind.u64.wrap
  (IntKind.u64.wrap (x_1.fst * (128 : Int)) + IntKind.u64.wrap ((b.getD x_1.snd.toNat (0 : Int)).tmod (128 : Int))), x_1.snd - (1 : Int)) ∧ μ (IntKind.u64.wrap (IntKind.u64.wrap
  (x_1.fst * (128 : Int)) + IntKind.u64.wrap ((b.getD x_1.snd.toNat (0 : Int)).tmod (128 : Int))), x_1.snd - (1 : Int)) < μ x_1) ∧ (decide ((0 : Int) ≤ x_1.snd) = false → (2 : Int)
  ≠ (0 : Int) ∧ (decide (x_1.fst.tmod (2 : Int) = (1 : Int)) = true → (2 : Int) ≠ (0 : Int) ∧ isI64 ((-1 : Int) - IntKind.i64.wrap (IntKind.u64.wrap (x_1.fst.tdiv (2 : Int)))) ∧
  isI64 (x + (1 : Int)) ∧ ((-1 : Int) - IntKind.i64.wrap (IntKind.u64.wrap (x_1.fst.tdiv (2 : Int))), x + (1 : Int), (0 : Int)) = decO (decI b)) ∧ (decide (x_1.fst.tmod (2 : Int) =
  (1 : Int)) = false → (2 : Int) ≠ (0 : Int) ∧ isI64 (x + (1 : Int)) ∧ (IntKind.i64.wrap (IntKind.u64.wrap (x_1.fst.tdiv (2 : Int))), x + (1 : Int), (0 : Int)) = decO (decI b)))))
  ∧ (decide ((0 : Int) < x) = false → ∃ (I : Int × Int → Prop), ∃ (μ : Int × Int → Nat), I ((0 : Int), x) ∧ ∀ (x_1 : Int × Int), I x_1 → (decide ((0 : Int) ≤ x_1.snd) = true → ((0
  : Int) ≤ x_1.snd ∧ x_1.snd < (↑b.length : Int)) ∧ (128 : Int) ≠ (0 : Int) ∧ isI64 (x_1.snd - (1 : Int)) ∧ I (IntKind.u64.wrap (IntKind.u64.wrap (x_1.fst * (128 : Int)) +
  IntKind.u64.wrap ((b.getD x_1.snd.toNat (0 : Int)).tmod (128 : Int))), x_1.snd - (1 : Int)) ∧ μ (IntKind.u64.wrap (IntKind.u64.wrap (x_1.fst * (128 : Int)) + IntKind.u64.wrap
  ((b.getD x_1.snd.toNat (0 : Int)).tmod (128 : Int))), x_1.snd - (1 : Int)) < μ x_1) ∧ (decide ((0 : Int) ≤ x_1.snd) = false → (2 : Int) ≠ (0 : Int) ∧ (decide (x_1.fst.tmod (2 :
  Int) = (1 : Int)) = true → (2 : Int) ≠ (0 : Int) ∧ isI64 ((-1 : Int) - IntKind.i64.wrap (IntKind.u64.wrap (x_1.fst.tdiv (2 : Int)))) ∧ isI64 (x + (1 : Int)) ∧ ((-1 : Int) -
  IntKind.i64.wrap (IntKind.u64.wrap (x_1.fst.tdiv (2 : Int))), x + (1 : Int), (0 : Int)) = decO (decI b)) ∧ (decide (x_1.fst.tmod (2 : Int) = (1 : Int)) = false → (2 : Int) ≠ (0 :
  Int) ∧ isI64 (x + (1 : Int)) ∧ (IntKind.i64.wrap (IntKind.u64.wrap (x_1.fst.tdiv (2 : Int))), x + (1 : Int), (0 : Int)) = decO (decI b))))))))) ∧ (decide (x < (↑b.length : Int))
  = false → (decide (x = (10 : Int)) = true → ((0 : Int), (0 : Int), (11 : Int)) = decO (decI b)) ∧ (decide (x = (10 : Int)) = false → (decide (x = (↑b.length : Int)) = true → ((0
  : Int), (0 : Int), (10 : Int)) = decO (decI b)) ∧ (decide (x = (↑b.length : Int)) = false → (decide (x = (9 : Int)) = true → ((0 : Int) ≤ x ∧ x < (↑b.length : Int)) ∧ (decide ((1
  : Int) < b.getD x.toNat (0 : Int)) = true → ((0 : Int), (0 : Int), (11 : Int)) = decO (decI b)) ∧ (decide ((1 : Int) < b.getD x.toNat (0 : Int)) = false → (decide ((0 : Int) < x)
  = true → ((0 : Int) ≤ x ∧ x < (↑b.length : Int)) ∧ (decide (b.getD x.toNat (0 : Int) = (0 : Int)) = true → ((0 : Int), (0 : Int), (11 : Int)) = decO (decI b)) ∧ (decide (b.getD
  x.toNat (0 : Int) = (0 : Int)) = false → ∃ (I : Int × Int → Prop), ∃ (μ : Int × Int → Nat), I ((0 : Int), x) ∧ ∀ (x_1 : Int × Int), I x_1 → (decide ((0 : Int) ≤ x_1.snd) = true →
  ((0 : Int) ≤ x_1.snd ∧ x_1.snd < (↑b.length : Int)) ∧ (128 : Int) ≠ (0 : Int) ∧ isI64 (x_1.snd - (1 : Int)) ∧ I (IntKind.u64.wrap (IntKind.u64.wrap (x_1.fst * (128 : Int)) +
  IntKind.u64.wrap ((b.getD x_1.snd.toNat (0 : Int)).tmod (128 : Int))), x_1.snd - (1 : Int)) ∧ μ (IntKind.u64.wrap (IntKind.u64.wrap (x_1.fst * (128 : Int)) + IntKind.u64.wrap
  ((b.getD x_1.snd.toNat (0 : Int)).tmod (128 : Int))), x_1.snd - (1 : Int)) < μ x_1) ∧ (decide ((0 : Int) ≤ x_1.snd) = false → (2 : Int) ≠ (0 : Int) ∧ (decide (x_1.fst.tmod (2 :
  Int) = (1 : Int)) = true → (2 : Int) ≠ (0 : Int) ∧ isI64 ((-1 : Int) - IntKind.i64.wrap (IntKind.u64.wrap (x_1.fst.tdiv (2 : Int)))) ∧ isI64 (x + (1 : Int)) ∧ ((-1 : Int) -
  IntKind.i64.wrap (IntKind.u64.wrap (x_1.fst.tdiv (2 : Int))), x + (1 : Int), (0 : Int)) = decO (decI b)) ∧ (decide (x_1.fst.tmod (2 : Int) = (1 : Int)) = false → (2 : Int) ≠ (0 :
  Int) ∧ isI64 (x + (1 : Int)) ∧ (IntKind.i64.wrap (IntKind.u64.wrap (x_1.fst.tdiv (2 : Int))), x + (1 : Int), (0 : Int)) = decO (decI b))))) ∧ (decide ((0 : Int) < x) = false → ∃
  (I : Int × Int → Prop), ∃ (μ : Int × Int → Nat), I ((0 : Int), x) ∧ ∀ (x_1 : Int × Int), I x_1 → (decide ((0 : Int) ≤ x_1.snd) = true → ((0 : Int) ≤ x_1.snd ∧ x_1.snd <
  (↑b.length : Int)) ∧ (128 : Int) ≠ (0 : Int) ∧ isI64 (x_1.snd - (1 : Int)) ∧ I (IntKind.u64.wrap (IntKind.u64.wrap (x_1.fst * (128 : Int)) + IntKind.u64.wrap ((b.getD
  x_1.snd.toNat (0 : Int)).tmod (128 : Int))), x_1.snd - (1 : Int)) ∧ μ (IntKind.u64.wrap (IntKind.u64.wrap (x_1.fst * (128 : Int)) + IntKind.u64.wrap ((b.getD x_1.snd.toNat (0 :
  Int)).tmod (128 : Int))), x_1.snd - (1 : Int)) < μ x_1) ∧ (decide ((0 : Int) ≤ x_1.snd) = false → (2 : Int) ≠ (0 : Int) ∧ (decide (x_1.fst.tmod (2 : Int) = (1 : Int)) = true → (2
  : Int) ≠ (0 : Int) ∧ isI64 ((-1 : Int) - IntKind.i64.wrap (IntKind.u64.wrap (x_1.fst.tdiv (2 : Int)))) ∧ isI64 (x + (1 : Int)) ∧ ((-1 : Int) - IntKind.i64.wrap (IntKind.u64.wrap
  (x_1.fst.tdiv (2 : Int))), x + (1 : Int), (0 : Int)) = decO (decI b)) ∧ (decide (x_1.fst.tmod (2 : Int) = (1 : Int)) = false → (2 : Int) ≠ (0 : Int) ∧ isI64 (x + (1 : Int)) ∧
  (IntKind.i64.wrap (IntKind.u64.wrap (x_1.fst.tdiv (2 : Int))), x + (1 : Int), (0 : Int)) = decO (decI b)))))) ∧ (decide (x = (9 : Int)) = false → (decide ((0 : Int) < x) = true →
  ((0 : Int) ≤ x ∧ x < (↑b.length : Int)) ∧ (decide (b.getD x.toNat (0 : Int) = (0 : Int)) = true → ((0 : Int), (0 : Int), (11 : Int)) = decO (decI b)) ∧ (decide (b.getD x.toNat (0
  : Int) = (0 : Int)) = false → ∃ (I : Int × Int → Prop), ∃ (μ : Int × Int → Nat), I ((0 : Int), x) ∧ ∀ (x_1 : Int × Int), I x_1 → (decide ((0 : Int) ≤ x_1.snd) = true → ((0 : Int)
  ≤ x_1.snd ∧ x_1.snd < (↑b.length : Int)) ∧ (128 : Int) ≠ (0 : Int) ∧ isI64 (x_1.snd - (1 : Int)) ∧ I (IntKind.u64.wrap (IntKind.u64.wrap (x_1.fst * (128 : Int)) +
  IntKind.u64.wrap ((b.getD x_1.snd.toNat (0 : Int)).tmod (128 : Int))), x_1.snd - (1 : Int)) ∧ μ (IntKind.u64.wrap (IntKind.u64.wrap (x_1.fst * (128 : Int)) + IntKind.u64.wrap
  ((b.getD x_1.snd.toNat (0 : Int)).tmod (128 : Int))), x_1.snd - (1 : Int)) < μ x_1) ∧ (decide ((0 : Int) ≤ x_1.snd) = false → (2 : Int) ≠ (0 : Int) ∧ (decide (x_1.fst.tmod (2 :
  Int) = (1 : Int)) = true → (2 : Int) ≠ (0 : Int) ∧ isI64 ((-1 : Int) - IntKind.i64.wrap (IntKind.u64.wrap (x_1.fst.tdiv (2 : Int)))) ∧ isI64 (x + (1 : Int)) ∧ ((-1 : Int) -
  IntKind.i64.wrap (IntKind.u64.wrap (x_1.fst.tdiv (2 : Int))), x + (1 : Int), (0 : Int)) = decO (decI b)) ∧ (decide (x_1.fst.tmod (2 : Int) = (1 : Int)) = false → (2 : Int) ≠ (0 :
  Int) ∧ isI64 (x + (1 : Int)) ∧ (IntKind.i64.wrap (IntKind.u64.wrap (x_1.fst.tdiv (2 : Int))), x + (1 : Int), (0 : Int)) = decO (decI b))))) ∧ (decide ((0 : Int) < x) = false → ∃
  (I : Int × Int → Prop), ∃ (μ : Int × Int → Nat), I ((0 : Int), x) ∧ ∀ (x_1 : Int × Int), I x_1 → (decide ((0 : Int) ≤ x_1.snd) = true → ((0 : Int) ≤ x_1.snd ∧ x_1.snd <
  (↑b.length : Int)) ∧ (128 : Int) ≠ (0 : Int) ∧ isI64 (x_1.snd - (1 : Int)) ∧ I (IntKind.u64.wrap (IntKind.u64.wrap (x_1.fst * (128 : Int)) + IntKind.u64.wrap ((b.getD
  x_1.snd.toNat (0 : Int)).tmod (128 : Int))), x_1.snd - (1 : Int)) ∧ μ (IntKind.u64.wrap (IntKind.u64.wrap (x_1.fst * (128 : Int)) + IntKind.u64.wrap ((b.getD x_1.snd.toNat (0 :
  Int)).tmod (128 : Int))), x_1.snd - (1 : Int)) < μ x_1) ∧ (decide ((0 : Int) ≤ x_1.snd) = false → (2 : Int) ≠ (0 : Int) ∧ (decide (x_1.fst.tmod (2 : Int) = (1 : Int)) = true → (2
  : Int) ≠ (0 : Int) ∧ isI64 ((-1 : Int) - IntKind.i64.wrap (IntKind.u64.wrap (x_1.fst.tdiv (2 : Int)))) ∧ isI64 (x + (1 : Int)) ∧ ((-1 : Int) - IntKind.i64.wrap (IntKind.u64.wrap
  (x_1.fst.tdiv (2 : Int))), x + (1 : Int), (0 : Int)) = decO (decI b)) ∧ (decide (x_1.fst.tmod (2 : Int) = (1 : Int)) = false → (2 : Int) ≠ (0 : Int) ∧ isI64 (x + (1 : Int)) ∧
  (IntKind.i64.wrap (IntKind.u64.wrap (x_1.fst.tdiv (2 : Int))), x + (1 : Int), (0 : Int)) = decO (decI b))))))))) := by kernel_rfl
theorem len_nf (b : List Int) (k : Int) : fnwp X1 5 68 lenSp (b, k) = (True ∧ ((!decide ((decO (decI b)).snd.snd = (0 : Int))) = true → ((0 : Int), (0 : Int), (decO (decI
  b)).snd.snd) = (decLen k b).triple (0 : Int)) ∧ ((!decide ((decO (decI b)).snd.snd = (0 : Int))) = false → (decide ((decO (decI b)).fst < (0 : Int)) = true → ((0 : Int), (0 :
  Int), (11 : Int)) = (decLen k b).triple (0 : Int)) ∧ (decide ((decO (decI b)).fst < (0 : Int)) = false → isI64 ((↑b.length : Int) - (decO (decI b)).snd.fst) ∧ (k ≠ (0 : Int) ∧
  isI64 (((↑b.length : Int) - (decO (decI b)).snd.fst).tdiv k)) ∧ (decide (((↑b.length : Int) - (decO (decI b)).snd.fst).tdiv k < (decO (decI b)).fst) = true → ((0 : Int), (0 :
  Int), (10 : Int)) = (decLen k b).triple (0 : Int)) ∧ (decide (((↑b.length : Int) - (decO (decI b)).snd.fst).tdiv k < (decO (decI b)).fst) = false → ((decO (decI b)).fst, (decO
  (decI b)).snd.fst, (0 : Int)) = (decLen k b).triple (0 : Int))))) := by kernel_rfl
theorem rLen_nf (b : List Int) (k : Int) : fnwp X1 5 60 lenSp (b, k) = (True ∧ ((!decide ((decO (decI b)).snd.snd = (0 : Int))) = true → ((0 : Int), (0 : Int), (decO (decI
  b)).snd.snd) = (decLen k b).triple (0 : Int)) ∧ ((!decide ((decO (decI b)).snd.snd = (0 : Int))) = false → (decide ((decO (decI b)).fst < (0 : Int)) = true → ((0 : Int), (0 :
  Int), (11 : Int)) = (decLen k b).triple (0 : Int)) ∧ (decide ((decO (decI b)).fst < (0 : Int)) = false → isI64 ((↑b.length : Int) - (decO (decI b)).snd.fst) ∧ (k ≠ (0 : Int) ∧
  isI64 (((↑b.length : Int) - (decO (decI b)).snd.fst).tdiv k)) ∧ (decide (((↑b.length : Int) - (decO (decI b)).snd.fst).tdiv k < (decO (decI b)).fst) = true → ((0 : Int), (0 :
  Int), (10 : Int)) = (decLen k b).triple (0 : Int)) ∧ (decide (((↑b.length : Int) - (decO (decI b)).snd.fst).tdiv k < (decO (decI b)).fst) = false → ((decO (decI b)).fst, (decO
  (decI b)).snd.fst, (0 : Int)) = (decLen k b).triple (0 : Int))))) := by kernel_rfl
theorem getInts_nf (b : List Int) : fnwp X3 5 45 getIntsSp b = (((1 : Int) = (1 : Int) ∨ (1 : Int) = (16 : Int)) ∧ ((!decide (((decLen (1 : Int) b).triple (0 : Int)).snd.snd = (0 :
  Int))) = true → ([], (0 : Int), ((decLen (1 : Int) b).triple (0 : Int)).snd.snd) = (decList (1 : Int) decI b).triple []) ∧ ((!decide (((decLen (1 : Int) b).triple (0 :
  Int)).snd.snd = (0 : Int))) = false → ∃ (I : List Int × Int × Int → Prop), ∃ (μ : List Int × Int × Int → Nat), I ([], ((decLen (1 : Int) b).triple (0 : Int)).snd.fst, (0 : Int))
  ∧ ∀ (x : List Int × Int × Int), I x → (decide (x.snd.snd < ((decLen (1 : Int) b).triple (0 : Int)).fst) = true → ((0 : Int) ≤ x.snd.fst ∧ x.snd.fst ≤ (↑b.length : Int)) ∧ True ∧
  ((!decide ((decO (decI (List.take (b.length - x.snd.fst.toNat) (List.drop x.snd.fst.toNat b)))).snd.snd = (0 : Int))) = true → ([], (0 : Int), (decO (decI (List.take (b.length -
  x.snd.fst.toNat) (List.drop x.snd.fst.toNat b)))).snd.snd) = (decList (1 : Int) decI b).triple []) ∧ ((!decide ((decO (decI (List.take (b.length - x.snd.fst.toNat) (List.drop
  x.snd.fst.toNat b)))).snd.snd = (0 : Int))) = false → roomP X3 (3 : Nat) (x.fst.length + [(decO (decI (List.take (b.length - x.snd.fst.toNat) (List.drop x.snd.fst.toNat
  b)))).fst].length) ∧ isI64 (x.snd.fst + (decO (decI (List.take (b.length - x.snd.fst.toNat) (List.drop x.snd.fst.toNat b)))).snd.fst) ∧ isI64 (x.snd.snd + (1 : Int)) ∧ I (x.fst
  ++ [(decO (decI (List.take (b.length - x.snd.fst.toNat) (List.drop x.snd.fst.toNat b)))).fst], x.snd.fst + (decO (decI (List.take (b.length - x.snd.fst.toNat) (List.drop
  x.snd.fst.toNat b)))).snd.fst, x.snd.snd + (1 : Int)) ∧ μ (x.fst ++ [(decO (decI (List.take (b.length - x.snd.fst.toNat) (List.drop x.snd.fst.toNat b)))).fst], x.snd.fst + (decO
  (decI (List.take (b.length - x.snd.fst.toNat) (List.drop x.snd.fst.toNat b)))).snd.fst, x.snd.snd + (1 : Int)) < μ x)) ∧ (decide (x.snd.snd < ((decLen (1 : Int) b).triple (0 :
  Int)).fst) = false → (x.fst, x.snd.fst, (0 : Int)) = (decList (1 : Int) decI b).triple []))) := by kernel_rfl
theorem rGetInts_nf (b : List Int) : fnwp X3 5 47 getIntsSp b = (((1 : Int) = (1 : Int) ∨ (1 : Int) = (16 : Int)) ∧ ((!decide (((decLen (1 : Int) b).triple (0 : Int)).snd.snd = (0
  : Int))) = true → ([], (0 : Int), ((decLen (1 : Int) b).triple (0 : Int)).snd.snd) = (decList (1 : Int) decI b).triple []) ∧ ((!decide (((decLen (1 : Int) b).triple (0 :
  Int)).snd.snd = (0 : Int))) = false → ∃ (I : List Int × Int × Int → Prop), ∃ (μ : List Int × Int × Int → Nat), I ([], ((decLen (1 : Int) b).triple (0 : Int)).snd.fst, (0 : Int))
  ∧ ∀ (x : List Int × Int × Int), I x → (decide (x.snd.snd < ((decLen (1 : Int) b).triple (0 : Int)).fst) = true → ((0 : Int) ≤ x.snd.fst ∧ x.snd.fst ≤ (↑b.length : Int)) ∧ True ∧
  ((!decide ((decO (decI (List.take (b.length - x.snd.fst.toNat) (List.drop x.snd.fst.toNat b)))).snd.snd = (0 : Int))) = true → ([], (0 : Int), (decO (decI (List.take (b.length -
  x.snd.fst.toNat) (List.drop x.snd.fst.toNat b)))).snd.snd) = (decList (1 : Int) decI b).triple []) ∧ ((!decide ((decO (decI (List.take (b.length - x.snd.fst.toNat) (List.drop
  x.snd.fst.toNat b)))).snd.snd = (0 : Int))) = false → roomP X3 (3 : Nat) (x.fst.length + [(decO (decI (List.take (b.length - x.snd.fst.toNat) (List.drop x.snd.fst.toNat
  b)))).fst].length) ∧ isI64 (x.snd.fst + (decO (decI (List.take (b.length - x.snd.fst.toNat) (List.drop x.snd.fst.toNat b)))).snd.fst) ∧ isI64 (x.snd.snd + (1 : Int)) ∧ I (x.fst
  ++ [(decO (decI (List.take (b.length - x.snd.fst.toNat) (List.drop x.snd.fst.toNat b)))).fst], x.snd.fst + (decO (decI (List.take (b.length - x.snd.fst.toNat) (List.drop
  x.snd.fst.toNat b)))).snd.fst, x.snd.snd + (1 : Int)) ∧ μ (x.fst ++ [(decO (decI (List.take (b.length - x.snd.fst.toNat) (List.drop x.snd.fst.toNat b)))).fst], x.snd.fst + (decO
  (decI (List.take (b.length - x.snd.fst.toNat) (List.drop x.snd.fst.toNat b)))).snd.fst, x.snd.snd + (1 : Int)) < μ x)) ∧ (decide (x.snd.snd < ((decLen (1 : Int) b).triple (0 :
  Int)).fst) = false → (x.fst, x.snd.fst, (0 : Int)) = (decList (1 : Int) decI b).triple []))) := by kernel_rfl
end Go.Proofs.Ytighbmlnlmbbkaa
