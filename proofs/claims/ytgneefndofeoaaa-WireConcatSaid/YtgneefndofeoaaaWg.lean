import Derived.Test.YtgneefndofeoaaaWf
--@drop
namespace Go.Proofs.Ytgneefndofeoaaa
open Go.AM Go.PL
set_option linter.unusedVariables false

noncomputable def X1 : Ctx := mkctx bs [(24, getIntSp), (25, getIntSp)] [] hintX
noncomputable def X2 : Ctx := mkctx bs [(24, getIntSp), (25, getIntSp), (42, lenSp), (44, lenSp)] [] hintX
noncomputable def X3 : Ctx := mkctx bs [(24, getIntSp), (25, getIntSp), (42, lenSp), (44, lenSp)
  , (26, getBytesSp)
  , (27, getBytesSp)
  , (47, getDigestSp)
  ] [] hintX
theorem rGetInt_nf (b : List Int) : fnwp W0 5 25 getIntSp b = (∃ (I : Int → Prop), ∃ (μ : Int → Nat), I (0 : Int) ∧ ∀ (x : Int), I x → (decide (x < (↑b.length : Int)) = true →
  (decide (x < (10 : Int)) = true → ((0 : Int) ≤ x ∧ x < (↑b.length : Int)) ∧ (decide ((128 : Int) ≤ b.getD x.toNat (0 : Int)) = true → isI64 (x + (1 : Int)) ∧ I (x + (1 : Int)) ∧
  μ (x + (1 : Int)) < μ x) ∧ (decide ((128 : Int) ≤ b.getD x.toNat (0 : Int)) = false → (decide (x = (10 : Int)) = true → ((0 : Int), (0 : Int), (11 : Int)) = decO (decI b)) ∧
  (decide (x = (10 : Int)) = false → (decide (x = (↑b.length : Int)) = true → ((0 : Int), (0 : Int), (10 : Int)) = decO (decI b)) ∧ (decide (x = (↑b.length : Int)) = false →
  (decide (x = (9 : Int)) = true → ((0 : Int) ≤ x ∧ x < (↑b.length : Int)) ∧ (decide ((1 : Int) < b.getD x.toNat (0 : Int)) = true → ((0 : Int), (0 : Int), (11 : Int)) = decO (decI
  b)) ∧ (decide ((1 : Int) < b.getD x.toNat (0 : Int)) = false → (decide ((0 : Int) < x) = true → ((0 : Int) ≤ x ∧ x < (↑b.length : Int)) ∧ (decide (b.getD x.toNat (0 : Int) = (0 :
  Int)) = true → ((0 : Int), (0 : Int), (11 : Int)) = decO (decI b)) ∧ (decide (b.getD x.toNat (0 : Int) = (0 : Int)) = false → ∃ (I : Int × Int → Prop), ∃ (μ : Int × Int → Nat), I
  ((0 : Int), x) ∧ ∀ (x_1 : Int × Int), I x_1 → (decide ((0 : Int) ≤ x_1.snd) = true → ((0 : Int) ≤ x_1.snd ∧ x_1.snd < (↑b.length : Int)) ∧ (128 : Int) ≠ (0 : Int) ∧ isI64
  (x_1.snd - (1 : Int)) ∧ I (IntKind.u64.wrap (IntKind.u64.wrap (x_1.fst * (128 : Int)) + IntKind.u64.wrap ((b.getD x_1.snd.toNat (0 : Int)).tmod (128 : Int))), x_1.snd - (1 :
  Int)) ∧ μ (IntKind.u64.wrap (IntKind.u64.wrap (x_1.fst * (128 : Int)) + IntKind.u64.wrap ((b.getD x_1.snd.toNat (0 : Int)).tmod (128 : Int))), x_1.snd - (1 : Int)) < μ x_1) ∧
  (decide ((0 : Int) ≤ x_1.snd) = false → (2 : Int) ≠ (0 : Int) ∧ (decide (x_1.fst.tmod (2 : Int) = (1 : Int)) = true → (2 : Int) ≠ (0 : Int) ∧ isI64 ((-1 : Int) - IntKind.i64.wrap
  (IntKind.u64.wrap (x_1.fst.tdiv (2 : Int)))) ∧ isI64 (x + (1 : Int)) ∧ ((-1 : Int) - IntKind.i64.wrap (IntKind.u64.wrap (x_1.fst.tdiv (2 : Int))), x + (1 : Int), (0 : Int)) =
  decO (decI b)) ∧ (decide (x_1.fst.tmod (2 : Int) = (1 : Int)) = false → (2 : Int) ≠ (0 : Int) ∧ isI64 (x + (1 : Int)) ∧ (IntKind.i64.wrap (IntKind.u64.wrap (x_1.fst.tdiv (2 :
  Int))), x + (1 : Int), (0 : Int)) = decO (decI b))))) ∧ (decide ((0 : Int) < x) = false → ∃ (I : Int × Int → Prop), ∃ (μ : Int × Int → Nat), I ((0 : Int), x) ∧ ∀ (x_1 : Int ×
  Int), I x_1 → (decide ((0 : Int) ≤ x_1.snd) = true → ((0 : Int) ≤ x_1.snd ∧ x_1.snd < (↑b.length : Int)) ∧ (128 : Int) ≠ (0 : Int) ∧ isI64 (x_1.snd - (1 : Int)) ∧ I
  (IntKind.u64.wrap (IntKind.u64.wrap (x_1.fst * (128 : Int)) + IntKind.u64.wrap ((b.getD x_1.snd.toNat (0 : Int)).tmod (128 : Int))), x_1.snd - (1 : Int)) ∧ μ (IntKind.u64.wrap
  (IntKind.u64.wrap (x_1.fst * (128 : Int)) + IntKind.u64.wrap ((b.getD x_1.snd.toNat (0 : Int)).tmod (128 : Int))), x_1.snd - (1 : Int)) < μ x_1) ∧ (decide ((0 : Int) ≤ x_1.snd) =
  false → (2 : Int) ≠ (0 : Int) ∧ (decide (x_1.fst.tmod (2 : Int) = (1 : Int)) = true → (2 : Int) ≠ (0 : Int) ∧ isI64 ((-1 : Int) - IntKind.i64.wrap (IntKind.u64.wrap (x_1.fst.tdiv
  (2 : Int)))) ∧ isI64 (x + (1 : Int)) ∧ ((-1 : Int) - IntKind.i64.wrap (IntKind.u64.wrap (x_1.fst.tdiv (2 : Int))), x + (1 : Int), (0 : Int)) = decO (decI b)) ∧ (decide
  (x_1.fst.tmod (2 : Int) = (1 : Int)) = false → (2 : Int) ≠ (0 : Int) ∧ isI64 (x + (1 : Int)) ∧ (IntKind.i64.wrap (IntKind.u64.wrap (x_1.fst.tdiv (2 : Int))), x + (1 : Int), (0 :
  Int)) = decO (decI b)))))) ∧ (decide (x = (9 : Int)) = false → (decide ((0 : Int) < x) = true → ((0 : Int) ≤ x ∧ x < (↑b.length : Int)) ∧ (decide (b.getD x.toNat (0 : Int) = (0 :
  Int)) = true → ((0 : Int), (0 : Int), (11 : Int)) = decO (decI b)) ∧ (decide (b.getD x.toNat (0 : Int) = (0 : Int)) = false → ∃ (I : Int × Int → Prop), ∃ (μ : Int × Int → Nat), I
  ((0 : Int), x) ∧ ∀ (x_1 : Int × Int), I x_1 → (decide ((0 : Int) ≤ x_1.snd) = true → ((0 : Int) ≤ x_1.snd ∧ x_1.snd < (↑b.length : Int)) ∧ (128 : Int) ≠ (0 : Int) ∧ isI64
  (x_1.snd - (1 : Int)) ∧ I (IntKind.u64.wrap (IntKind.u64.wrap (x_1.fst * (128 : Int)) + IntKind.u64.wrap ((b.getD x_1.snd.toNat (0 : Int)).tmod (128 : Int))), x_1.snd - (1 :
  Int)) ∧ μ (IntKind.u64.wrap (IntKind.u64.wrap (x_1.fst * (128 : Int)) + IntKind.u64.wrap ((b.getD x_1.snd.toNat (0 : Int)).tmod (128 : Int))), x_1.snd - (1 : Int)) < μ x_1) ∧
  (decide ((0 : Int) ≤ x_1.snd) = false → (2 : Int) ≠ (0 : Int) ∧ (decide (x_1.fst.tmod (2 : Int) = (1 : Int)) = true → (2 : Int) ≠ (0 : Int) ∧ isI64 ((-1 : Int) - IntKind.i64.wrap
  (IntKind.u64.wrap (x_1.fst.tdiv (2 : Int)))) ∧ isI64 (x + (1 : Int)) ∧ ((-1 : Int) - IntKind.i64.wrap (IntKind.u64.wrap (x_1.fst.tdiv (2 : Int))), x + (1 : Int), (0 : Int)) =
  decO (decI b)) ∧ (decide (x_1.fst.tmod (2 : Int) = (1 : Int)) = false → (2 : Int) ≠ (0 : Int) ∧ isI64 (x + (1 : Int)) ∧ (IntKind.i64.wrap (IntKind.u64.wrap (x_1.fst.tdiv (2 :
  Int))), x + (1 : Int), (0 : Int)) = decO (decI b))))) ∧ (decide ((0 : Int) < x) = false → ∃ (I : Int × Int → Prop), ∃ (μ : Int × Int → Nat), I ((0 : Int), x) ∧ ∀ (x_1 : Int ×
  Int), I x_1 → (decide ((0 : Int) ≤ x_1.snd) = true → ((0 : Int) ≤ x_1.snd ∧ x_1.snd < (↑b.length : Int)) ∧ (128 : Int) ≠ (0 : Int) ∧ isI64 (x_1.snd - (1 : Int)) ∧ I
  (IntKind.u64.wrap (IntKind.u64.wrap (x_1.fst * (128 : Int)) + IntKind.u64.wrap ((b.getD x_1.snd.toNat (0 : Int)).tmod (128 : Int))), x_1.snd - (1 : Int)) ∧ μ (IntKind.u64.wrap
  (IntKind.u64.wrap (x_1.fst * (128 : Int)) + IntKind.u64.wrap ((b.getD x_1.snd.toNat (0 : Int)).tmod (128 : Int))), x_1.snd - (1 : Int)) < μ x_1) ∧ (decide ((0 : Int) ≤ x_1.snd) =
  false → (2 : Int) ≠ (0 : Int) ∧ (decide (x_1.fst.tmod (2 : Int) = (1 : Int)) = true → (2 : Int) ≠ (0 : Int) ∧ isI64 ((-1 : Int) - IntKind.i64.wrap (IntKind.u64.wrap (x_1.fst.tdiv
  (2 : Int)))) ∧ isI64 (x + (1 : Int)) ∧ ((-1 : Int) - IntKind.i64.wrap (IntKind.u64.wrap (x_1.fst.tdiv (2 : Int))), x + (1 : Int), (0 : Int)) = decO (decI b)) ∧ (decide
  (x_1.fst.tmod (2 : Int) = (1 : Int)) = false → (2 : Int) ≠ (0 : Int) ∧ isI64 (x + (1 : Int)) ∧ (IntKind.i64.wrap (IntKind.u64.wrap (x_1.fst.tdiv (2 : Int))), x + (1 : Int), (0 :
  Int)) = decO (decI b))))))))) ∧ (decide (x < (10 : Int)) = false → (decide (x = (10 : Int)) = true → ((0 : Int), (0 : Int), (11 : Int)) = decO (decI b)) ∧ (decide (x = (10 :
  Int)) = false → (decide (x = (↑b.length : Int)) = true → ((0 : Int), (0 : Int), (10 : Int)) = decO (decI b)) ∧ (decide (x = (↑b.length : Int)) = false → (decide (x = (9 : Int)) =
  true → ((0 : Int) ≤ x ∧ x < (↑b.length : Int)) ∧ (decide ((1 : Int) < b.getD x.toNat (0 : Int)) = true → ((0 : Int), (0 : Int), (11 : Int)) = decO (decI b)) ∧ (decide ((1 : Int)
  < b.getD x.toNat (0 : Int)) = false → (decide ((0 : Int) < x) = true → ((0 : Int) ≤ x ∧ x < (↑b.length : Int)) ∧ (decide (b.getD x.toNat (0 : Int) = (0 : Int)) = true → ((0 :
  Int), (0 : Int), (11 : Int)) = decO (decI b)) ∧ (decide (b.getD x.toNat (0 : Int) = (0 : Int)) = false → ∃ (I : Int × Int → Prop), ∃ (μ : Int × Int → Nat), I ((0 : Int), x) ∧ ∀
  (x_1 : Int × Int), I x_1 → (decide ((0 : Int) ≤ x_1.snd) = true → ((0 : Int) ≤ x_1.snd ∧ x_1.snd < (↑b.length : Int)) ∧ (128 : Int) ≠ (0 : Int) ∧ isI64 (x_1.snd - (1 : Int)) ∧ I
  (IntKind.u64.wrap (IntKind.u64.wrap (x_1.fst * (128 : Int)) + IntKind.u64.wrap ((b.getD x_1.snd.toNat (0 : Int)).tmod (128 : Int))), x_1.snd - (1 : Int)) ∧ μ (IntKind.u64.wrap
  (IntKind.u64.wrap (x_1.fst * (128 : Int)) + IntKind.u64.wrap ((b.getD x_1.snd.toNat (0 : Int)).tmod (128 : Int))), x_1.snd - (1 : Int)) < μ x_1) ∧ (decide ((0 : Int) ≤ x_1.snd) =
  false → (2 : Int) ≠ (0 : Int) ∧ (decide (x_1.fst.tmod (2 : Int) = (1 : Int)) = true → (2 : Int) ≠ (0 : Int) ∧ isI64 ((-1 : Int) - IntKind.i64.wrap (IntKind.u64.wrap (x_1.fst.tdiv
  (2 : Int)))) ∧ isI64 (x + (1 : Int)) ∧ ((-1 : Int) - IntKind.i64.wrap (IntKind.u64.wrap (x_1.fst.tdiv (2 : Int))), x + (1 : Int), (0 : Int)) = decO (decI b)) ∧ (decide
  (x_1.fst.tmod (2 : Int) = (1 : Int)) = false → (2 : Int) ≠ (0 : Int) ∧ isI64 (x + (1 : Int)) ∧ (IntKind.i64.wrap (IntKind.u64.wrap (x_1.fst.tdiv (2 : Int))), x + (1 : Int), (0 :
  Int)) = decO (decI b))))) ∧ (decide ((0 : Int) < x) = false → ∃ (I : Int × Int → Prop), ∃ (μ : Int × Int → Nat), I ((0 : Int), x) ∧ ∀ (x_1 : Int × Int), I x_1 → (decide ((0 :
  Int) ≤ x_1.snd) = true → ((0 : Int) ≤ x_1.snd ∧ x_1.snd < (↑b.length : Int)) ∧ (128 : Int) ≠ (0 : Int) ∧ isI64 (x_1.snd - (1 : Int)) ∧ I (IntKind.u64.wrap (IntKind.u64.wrap
  (x_1.fst * (128 : Int)) + IntKind.u64.wrap ((b.getD x_1.snd.toNat (0 : Int)).tmod (128 : Int))), x_1.snd - (1 : Int)) ∧ μ (IntKind.u64.wrap (IntKind.u64.wrap (x_1.fst * (128 :
  Int)) + IntKind.u64.wrap ((b.getD x_1.snd.toNat (0 : Int)).tmod (128 : Int))), x_1.snd - (1 : Int)) < μ x_1) ∧ (decide ((0 : Int) ≤ x_1.snd) = false → (2 : Int) ≠ (0 : Int) ∧
  (decide (x_1.fst.tmod (2 : Int) = (1 : Int)) = true → (2 : Int) ≠ (0 : Int) ∧ isI64 ((-1 : Int) - IntKind.i64.wrap (IntKind.u64.wrap (x_1.fst.tdiv (2 : Int)))) ∧ isI64 (x + (1 :
  Int)) ∧ ((-1 : Int) - IntKind.i64.wrap (IntKind.u64.wrap (x_1.fst.tdiv (2 : Int))), x + (1 : Int), (0 : Int)) = decO (decI b)) ∧ (decide (x_1.fst.tmod (2 : Int) = (1 : Int)) =
  false → (2 : Int) ≠ (0 : Int) ∧ isI64 (x + (1 : Int)) ∧ (IntKind.i64.wrap (IntKind.u64.wrap (x_1.fst.tdiv (2 : Int))), x + (1 : Int), (0 : Int)) = decO (decI b)))))) ∧ (decide (x
  = (9 : Int)) = false → (decide ((0 : Int) < x) = true → ((0 : Int) ≤ x ∧ x < (↑b.length : Int)) ∧ (decide (b.getD x.toNat (0 : Int) = (0 : Int)) = true → ((0 : Int), (0 : Int),
  (11 : Int)) = decO (decI b)) ∧ (decide (b.getD x.toNat (0 : Int) = (0 : Int)) = false → ∃ (I : Int × Int → Prop), ∃ (μ : Int × Int → Nat), I ((0 : Int), x) ∧ ∀ (x_1 : Int × Int),
  I x_1 → (decide ((0 : Int) ≤ x_1.snd) = true → ((0 : Int) ≤ x_1.snd ∧ x_1.snd < (↑b.length : Int)) ∧ (128 : Int) ≠ (0 : Int) ∧ isI64 (x_1.snd - (1 : Int)) ∧ I (IntKind.u64.wrap
  (IntKind.u64.wrap (x_1.fst * (128 : Int)) + IntKind.u64.wrap ((b.getD x_1.snd.toNat (0 : Int)).tmod (128 : Int))), x_1.snd - (1 : Int)) ∧ μ (IntKind.u64.wrap (IntKind.u64.wrap
  (x_1.fst * (128 : Int)) + IntKind.u64.wrap ((b.getD x_1.snd.toNat (0 : Int)).tmod (128 : Int))), x_1.snd - (1 : Int)) < μ x_1) ∧ (decide ((0 : Int) ≤ x_1.snd) = false → (2 : Int)
  ≠ (0 : Int) ∧ (decide (x_1.fst.tmod (2 : Int) = (1 : Int)) = true → (2 : Int) ≠ (0 : Int) ∧ isI64 ((-1 : Int) - IntKind.i64.wrap (IntKind.u64.wrap (x_1.fst.tdiv (2 : Int)))) ∧
  isI64 (x + (1 : Int)) ∧ ((-1 : Int) - IntKind.i64.wrap (IntKind.u64.wrap (x_1.fst.tdiv (2 : Int))), x + (1 : Int), (0 : Int)) = decO (decI b)) ∧ (decide (x_1.fst.tmod (2 : Int) =
  (1 : Int)) = false → (2 : Int) ≠ (0 : Int) ∧ isI64 (x + (1 : Int)) ∧ (IntKind.i64.wrap (IntKind.u64.wrap (x_1.fst.tdiv (2 : Int))), x + (1 : Int), (0 : Int)) = decO (decI b)))))
  ∧ (decide ((0 : Int) < x) = false → ∃ (I : Int × Int → Prop), ∃ (μ : Int × Int → Nat), I ((0 : Int), x) ∧ ∀ (x_1 : Int × Int), I x_1 → (decide ((0 : Int) ≤ x_1.snd) = true → ((0
  : Int) ≤ x_1.snd ∧ x_1.snd < (↑b.length : Int)) ∧ (128 : Int) ≠ (0 : Int) ∧ isI64 (x_1.snd - (1 : Int)) ∧ I (IntKind.u64.wrap (IntKind.u64.wrap (x_1.fst * (128 : Int)) +
  IntKind.u64.wrap ((b.getD x_1.snd.toNat (0 : Int)).tmod (128 : Int))), x_1.snd - (1 : Int)) ∧ μ (IntKind.u64.wrap (IntKind.u64.wrap (x_1.fst * (128 : Int)) + IntKind.u64.wrap
  ((b.getD x_1.snd.toNat (0 : Int)).tmod (128 : Int))), x_1.snd - (1 : Int)) < μ x_1) ∧ (decide ((0 : Int) ≤ x_1.snd) = false → (2 : Int) ≠ (0 : Int) ∧ (decide (x_1.fst.tmod (2 :
  Int) = (1 : Int)) = true → (2 : Int) ≠ (0 : Int) ∧ isI64 ((-1 : Int) - IntKind.i64.wrap (IntKind.u64.wrap (x_1.fst.tdiv (2 : Int)))) ∧ isI64 (x + (1 : Int)) ∧ ((-1 : Int) -
  IntKind.i64.wrap (IntKind.u64.wrap (x_1.fst.tdiv (2 : Int))), x + (1 : Int), (0 : Int)) = decO (decI b)) ∧ (decide (x_1.fst.tmod (2 : Int) = (1 : Int)) = false → (2 : Int) ≠ (0 :
  Int) ∧ isI64 (x + (1 : Int)) ∧ (IntKind.i64.wrap (IntKind.u64.wrap (x_1.fst.tdiv (2 : Int))), x + (1 : Int), (0 : Int)) = decO (decI b))))))))) ∧ (decide (x < (↑b.length : Int))
  = false → (decide (x = (10 : Int)) = true → ((0 : Int), (0 : Int), (11 : Int)) = decO (decI b)) ∧ (decide (x = (10 : Int)) = false → (decide (x = (↑b.length : Int)) = true → ((0
  : Int), (0 : Int), (10 : Int)) = decO (decI b)) ∧ (decide (x = (↑b.length : Int)) = false → (decide (x = (9 : Int)) = true → ((0 : Int) ≤ x ∧ x < (↑b.length : Int)) ∧ (decide ((1
  : Int) < b.getD x.toNat (0 : Int)) = true → ((0 : Int), (0 : Int), (11 : Int)) = decO (decI b)) ∧ (decide ((1 : Int) < b.getD x.toNat (0 : Int)) = false → (decide ((0 : Int) < x)
  = true → ((0 : Int) ≤ x ∧ x < (↑b.length : Int)) ∧ (decide (b.getD x.toNat (0 : Int) = (0 : Int)) = true → ((0 : Int), (0 : Int), (11 : Int)) = decO (decI b)) ∧ (decide (b.getD
  x.toNat (0 : Int) = (0 : Int)) = false → ∃ (I : Int × Int → Prop), ∃ (μ : Int × Int → Nat), I ((0 : Int), x) ∧ ∀ (x_1 : Int × Int), I x_1 → (decide ((0 : Int) ≤ x_1.snd) = true →
  ((0 : Int) ≤ x_1.snd ∧ x_1.snd < (↑b.length : Int)) ∧ (128 : Int) ≠ (0 : Int) ∧ isI64 (x_1.snd - (1 : Int)) ∧ I (IntKind.u64.wrap (IntKind.u64.wrap (x_1.fst * (128 : Int)) +
  IntKind.u64.wrap ((b.getD x_1.snd.toNat (0 : Int)).tmod (128 : Int))), x_1.snd - (1 : Int)) ∧ μ (IntKind.u64.wrap (IntKind.u64.wrap (x_1.fst * (128 : Int)) + IntKind.u64.wrap
  ((b.getD x_1.snd.toNat (0 : Int)).tmod (128 : Int))), x_1.snd - (1 : Int)) < μ x_1) ∧ (decide ((0 : Int) ≤ x_1.snd) = false → (2 : Int) ≠ (0 : Int) ∧ (decide (x_1.fst.tmod (2 :
  Int) = (1 : Int)) = true → (2 : Int) ≠ (0 : Int) ∧ isI64 ((-1 : Int) - IntKind.i64.wrap (IntKind.u64.wrap (x_1.fst.tdiv (2 : Int)))) ∧ isI64 (x + (1 : Int)) ∧ ((-1 : Int) -
  IntKind.i64.wrap (IntKind.u64.wrap (x_1.fst.tdiv (2 : Int))), x + (1 : Int), (0 : Int)) = decO (decI b)) ∧ (decide (x_1.fst.tmod (2 : Int) = (1 : Int)) = false → (2 : Int) ≠ (0 :
  Int) ∧ isI64 (x + (1 : Int)) ∧ (IntKind.i64.wrap (IntKind.u64.wrap (x_1.fst.tdiv (2 : Int))), x + (1 : Int), (0 : Int)) = decO (decI b))))) ∧ (decide ((0 : Int) < x) = false → ∃
  (I : Int × Int → Prop), ∃ (μ : Int × Int → Nat), I ((0 : Int), x) ∧ ∀ (x_1 : Int × Int), I x_1 → (decide ((0 : Int) ≤ x_1.snd) = true → ((0 : Int) ≤ x_1.snd ∧ x_1.snd <
  (↑b.length : Int)) ∧ (128 : Int) ≠ (0 : Int) ∧ isI64 (x_1.snd - (1 : Int)) ∧ I (IntKind.u64.wrap (IntKind.u64.wrap (x_1.fst * (128 : Int)) + IntKind.u64.wrap ((b.getD
  x_1.snd.toNat (0 : Int)).tmod (128 : Int))), x_1.snd - (1 : Int)) ∧ μ (IntKind.u64.wrap (IntKind.u64.wrap (x_1.fst * (128 : Int)) + IntKind.u64.wrap ((b.getD x_1.snd.toNat (0 :
  Int)).tmod (128 : Int))), x_1.snd - (1 : Int)) < μ x_1) ∧ (decide ((0 : Int) ≤ x_1.snd) = false → (2 : Int) ≠ (0 : Int) ∧ (decide (x_1.fst.tmod (2 : Int) = (1 : Int)) = true → (2
  : Int) ≠ (0 : Int) ∧ isI64 ((-1 : Int) - IntKind.i64.wrap (IntKind.u64.wrap (x_1.fst.tdiv (2 : Int)))) ∧ isI64 (x + (1 : Int)) ∧ ((-1 : Int) - IntKind.i64.wrap (IntKind.u64.wrap
  (x_1.fst.tdiv (2 : Int))), x + (1 : Int), (0 : Int)) = decO (decI b)) ∧ (decide (x_1.fst.tmod (2 : Int) = (1 : Int)) = false → (2 : Int) ≠ (0 : Int) ∧ isI64 (x + (1 : Int)) ∧
  (IntKind.i64.wrap (IntKind.u64.wrap (x_1.fst.tdiv (2 : Int))), x + (1 : Int), (0 : Int)) = decO (decI b)))))) ∧ (decide (x = (9 : Int)) = false → (decide ((0 : Int) < x) = true →
  ((0 : Int) ≤ x ∧ x < (↑b.length : Int)) ∧ (decide (b.getD x.toNat (0 : Int) = (0 : Int)) = true → ((0 : Int), (0 : Int), (11 : Int)) = decO (decI b)) ∧ (decide (b.getD x.toNat (0
  : Int) = (0 : Int)) = false → ∃ (I : Int × Int → Prop), ∃ (μ : Int × Int → Nat), I ((0 : Int), x) ∧ ∀ (x_1 : Int × Int), I x_1 → (decide ((0 : Int) ≤ x_1.snd) = true → ((0 : Int)
  ≤ x_1.snd ∧ x_1.snd < (↑b.length : Int)) ∧ (128 : Int) ≠ (0 : Int) ∧ isI64 (x_1.snd - (1 : Int)) ∧ I (IntKind.u64.wrap (IntKind.u64.wrap (x_1.fst * (128 : Int)) +
  IntKind.u64.wrap ((b.getD x_1.snd.toNat (0 : Int)).tmod (128 : Int))), x_1.snd - (1 : Int)) ∧ μ (IntKind.u64.wrap (IntKind.u64.wrap (x_1.fst * (128 : Int)) + IntKind.u64.wrap
  ((b.getD x_1.snd.toNat (0 : Int)).tmod (128 : Int))), x_1.snd - (1 : Int)) < μ x_1) ∧ (decide ((0 : Int) ≤ x_1.snd) = false → (2 : Int) ≠ (0 : Int) ∧ (decide (x_1.fst.tmod (2 :
  Int) = (1 : Int)) = true → (2 : Int) ≠ (0 : Int) ∧ isI64 ((-1 : Int) - IntKind.i64.wrap (IntKind.u64.wrap (x_1.fst.tdiv (2 : Int)))) ∧ isI64 (x + (1 : Int)) ∧ ((-1 : Int) -
  IntKind.i64.wrap (IntKind.u64.wrap (x_1.fst.tdiv (2 : Int))), x + (1 : Int), (0 : Int)) = decO (decI b)) ∧ (decide (x_1.fst.tmod (2 : Int) = (1 : Int)) = false → (2 : Int) ≠ (0 :
  Int) ∧ isI64 (x + (1 : Int)) ∧ (IntKind.i64.wrap (IntKind.u64.wrap (x_1.fst.tdiv (2 : Int))), x + (1 : Int), (0 : Int)) = decO (decI b))))) ∧ (decide ((0 : Int) < x) = false → ∃
  (I : Int × Int → Prop), ∃ (μ : Int × Int → Nat), I ((0 : Int), x) ∧ ∀ (x_1 : Int × Int), I x_1 → (decide ((0 : Int) ≤ x_1.snd) = true → ((0 : Int) ≤ x_1.snd ∧ x_1.snd <
  (↑b.length : Int)) ∧ (128 : Int) ≠ (0 : Int) ∧ isI64 (x_1.snd - (1 : Int)) ∧ I (IntKind.u64.wrap (IntKind.u64.wrap (x_1.fst * (128 : Int)) + IntKind.u64.wrap ((b.getD
  x_1.snd.toNat (0 : Int)).tmod (128 : Int))), x_1.snd - (1 : Int)) ∧ μ (IntKind.u64.wrap (IntKind.u64.wrap (x_1.fst * (128 : Int)) + IntKind.u64.wrap ((b.getD x_1.snd.toNat (0 :
  Int)).tmod (128 : Int))), x_1.snd - (1 : Int)) < μ x_1) ∧ (decide ((0 : Int) ≤ x_1.snd) = false → (2 : Int) ≠ (0 : Int) ∧ (decide (x_1.fst.tmod (2 : Int) = (1 : Int)) = true → (2
  : Int) ≠ (0 : Int) ∧ isI64 ((-1 : Int) - IntKind.i64.wrap (IntKind.u64.wrap (x_1.fst.tdiv (2 : Int)))) ∧ isI64 (x + (1 : Int)) ∧ ((-1 : Int) - IntKind.i64.wrap (IntKind.u64.wrap
  (x_1.fst.tdiv (2 : Int))), x + (1 : Int), (0 : Int)) = decO (decI b)) ∧ (decide (x_1.fst.tmod (2 : Int) = (1 : Int)) = false → (2 : Int) ≠ (0 : Int) ∧ isI64 (x + (1 : Int)) ∧
  (IntKind.i64.wrap (IntKind.u64.wrap (x_1.fst.tdiv (2 : Int))), x + (1 : Int), (0 : Int)) = decO (decI b))))))))) := by kernel_rfl
theorem len_nf (b : List Int) (k : Int) : fnwp X1 5 42 lenSp (b, k) = (True ∧ ((!decide ((decO (decI b)).snd.snd = (0 : Int))) = true → ((0 : Int), (0 : Int), (decO (decI
  b)).snd.snd) = (decLen k b).triple (0 : Int)) ∧ ((!decide ((decO (decI b)).snd.snd = (0 : Int))) = false → (decide ((decO (decI b)).fst < (0 : Int)) = true → ((0 : Int), (0 :
  Int), (11 : Int)) = (decLen k b).triple (0 : Int)) ∧ (decide ((decO (decI b)).fst < (0 : Int)) = false → isI64 ((↑b.length : Int) - (decO (decI b)).snd.fst) ∧ (k ≠ (0 : Int) ∧
  isI64 (((↑b.length : Int) - (decO (decI b)).snd.fst).tdiv k)) ∧ (decide (((↑b.length : Int) - (decO (decI b)).snd.fst).tdiv k < (decO (decI b)).fst) = true → ((0 : Int), (0 :
  Int), (10 : Int)) = (decLen k b).triple (0 : Int)) ∧ (decide (((↑b.length : Int) - (decO (decI b)).snd.fst).tdiv k < (decO (decI b)).fst) = false → ((decO (decI b)).fst, (decO
  (decI b)).snd.fst, (0 : Int)) = (decLen k b).triple (0 : Int))))) := by kernel_rfl
theorem rLen_nf (b : List Int) (k : Int) : fnwp X1 5 44 lenSp (b, k) = (True ∧ ((!decide ((decO (decI b)).snd.snd = (0 : Int))) = true → ((0 : Int), (0 : Int), (decO (decI
  b)).snd.snd) = (decLen k b).triple (0 : Int)) ∧ ((!decide ((decO (decI b)).snd.snd = (0 : Int))) = false → (decide ((decO (decI b)).fst < (0 : Int)) = true → ((0 : Int), (0 :
  Int), (11 : Int)) = (decLen k b).triple (0 : Int)) ∧ (decide ((decO (decI b)).fst < (0 : Int)) = false → isI64 ((↑b.length : Int) - (decO (decI b)).snd.fst) ∧ (k ≠ (0 : Int) ∧
  isI64 (((↑b.length : Int) - (decO (decI b)).snd.fst).tdiv k)) ∧ (decide (((↑b.length : Int) - (decO (decI b)).snd.fst).tdiv k < (decO (decI b)).fst) = true → ((0 : Int), (0 :
  Int), (10 : Int)) = (decLen k b).triple (0 : Int)) ∧ (decide (((↑b.length : Int) - (decO (decI b)).snd.fst).tdiv k < (decO (decI b)).fst) = false → ((decO (decI b)).fst, (decO
  (decI b)).snd.fst, (0 : Int)) = (decLen k b).triple (0 : Int))))) := by kernel_rfl
theorem getBytes_nf (b : List Int) : fnwp X2 5 26 getBytesSp b = (((1 : Int) = (1 : Int) ∨ (1 : Int) = (16 : Int)) ∧ ((!decide (((decLen (1 : Int) b).triple (0 : Int)).snd.snd = (0
  : Int))) = true → (bytesOf { data := #[] }, (0 : Int), ((decLen (1 : Int) b).triple (0 : Int)).snd.snd) = (decBytes b).triple []) ∧ ((!decide (((decLen (1 : Int) b).triple (0 :
  Int)).snd.snd = (0 : Int))) = false → isI64 (((decLen (1 : Int) b).triple (0 : Int)).snd.fst + ((decLen (1 : Int) b).triple (0 : Int)).fst) ∧ ((0 : Int) ≤ ((decLen (1 : Int)
  b).triple (0 : Int)).snd.fst ∧ ((decLen (1 : Int) b).triple (0 : Int)).snd.fst ≤ ((decLen (1 : Int) b).triple (0 : Int)).snd.fst + ((decLen (1 : Int) b).triple (0 : Int)).fst ∧
  ((decLen (1 : Int) b).triple (0 : Int)).snd.fst + ((decLen (1 : Int) b).triple (0 : Int)).fst ≤ (↑b.length : Int)) ∧ isI64 (((decLen (1 : Int) b).triple (0 : Int)).snd.fst +
  ((decLen (1 : Int) b).triple (0 : Int)).fst) ∧ (List.take ((((decLen (1 : Int) b).triple (0 : Int)).snd.fst + ((decLen (1 : Int) b).triple (0 : Int)).fst).toNat - ((decLen (1 :
  Int) b).triple (0 : Int)).snd.fst.toNat) (List.drop ((decLen (1 : Int) b).triple (0 : Int)).snd.fst.toNat b), ((decLen (1 : Int) b).triple (0 : Int)).snd.fst + ((decLen (1 : Int)
  b).triple (0 : Int)).fst, (0 : Int)) = (decBytes b).triple [])) := by kernel_rfl
theorem rGetBytes_nf (b : List Int) : fnwp X1 5 27 getBytesSp b = (True ∧ ((!decide ((decO (decI b)).snd.snd = (0 : Int))) = true → (bytesOf { data := #[] }, (0 : Int), (decO (decI
  b)).snd.snd) = (decBytes b).triple []) ∧ ((!decide ((decO (decI b)).snd.snd = (0 : Int))) = false → (decide ((decO (decI b)).fst < (0 : Int)) = true → (bytesOf { data := #[] },
  (0 : Int), (11 : Int)) = (decBytes b).triple []) ∧ (decide ((decO (decI b)).fst < (0 : Int)) = false → isI64 ((↑b.length : Int) - (decO (decI b)).snd.fst) ∧ (decide ((↑b.length :
  Int) - (decO (decI b)).snd.fst < (decO (decI b)).fst) = true → (bytesOf { data := #[] }, (0 : Int), (10 : Int)) = (decBytes b).triple []) ∧ (decide ((↑b.length : Int) - (decO
  (decI b)).snd.fst < (decO (decI b)).fst) = false → isI64 ((decO (decI b)).snd.fst + (decO (decI b)).fst) ∧ ((0 : Int) ≤ (decO (decI b)).snd.fst ∧ (decO (decI b)).snd.fst ≤ (decO
  (decI b)).snd.fst + (decO (decI b)).fst ∧ (decO (decI b)).snd.fst + (decO (decI b)).fst ≤ (↑b.length : Int)) ∧ isI64 ((decO (decI b)).snd.fst + (decO (decI b)).fst) ∧ (List.take
  (((decO (decI b)).snd.fst + (decO (decI b)).fst).toNat - (decO (decI b)).snd.fst.toNat) (List.drop (decO (decI b)).snd.fst.toNat b), (decO (decI b)).snd.fst + (decO (decI
  b)).fst, (0 : Int)) = (decBytes b).triple [])))) := by kernel_rfl
theorem getDigest_nf (b : List Int) : fnwp X1 5 47 getDigestSp b = (((0 : Int) ≤ (0 : Int) ∧ (0 : Int) ≤ (16 : Int) ∧ (16 : Int) ≤ (↑b.length : Int)) ∧ (16 : Int) ≤ (↑(List.take
  (16 : Nat) (List.drop (0 : Nat) b)).length : Int) ∧ ([(List.take (16 : Nat) (List.take (16 : Nat) (List.drop (0 : Nat) b))).getD (0 : Nat) (0 : Int), (List.take (16 : Nat)
  (List.take (16 : Nat) (List.drop (0 : Nat) b))).getD (1 : Nat) (0 : Int), (List.take (16 : Nat) (List.take (16 : Nat) (List.drop (0 : Nat) b))).getD (2 : Nat) (0 : Int),
  (List.take (16 : Nat) (List.take (16 : Nat) (List.drop (0 : Nat) b))).getD (3 : Nat) (0 : Int), (List.take (16 : Nat) (List.take (16 : Nat) (List.drop (0 : Nat) b))).getD (4 :
  Nat) (0 : Int), (List.take (16 : Nat) (List.take (16 : Nat) (List.drop (0 : Nat) b))).getD (5 : Nat) (0 : Int), (List.take (16 : Nat) (List.take (16 : Nat) (List.drop (0 : Nat)
  b))).getD (6 : Nat) (0 : Int), (List.take (16 : Nat) (List.take (16 : Nat) (List.drop (0 : Nat) b))).getD (7 : Nat) (0 : Int), (List.take (16 : Nat) (List.take (16 : Nat)
  (List.drop (0 : Nat) b))).getD (8 : Nat) (0 : Int), (List.take (16 : Nat) (List.take (16 : Nat) (List.drop (0 : Nat) b))).getD (9 : Nat) (0 : Int), (List.take (16 : Nat)
  (List.take (16 : Nat) (List.drop (0 : Nat) b))).getD (10 : Nat) (0 : Int), (List.take (16 : Nat) (List.take (16 : Nat) (List.drop (0 : Nat) b))).getD (11 : Nat) (0 : Int),
  (List.take (16 : Nat) (List.take (16 : Nat) (List.drop (0 : Nat) b))).getD (12 : Nat) (0 : Int), (List.take (16 : Nat) (List.take (16 : Nat) (List.drop (0 : Nat) b))).getD (13 :
  Nat) (0 : Int), (List.take (16 : Nat) (List.take (16 : Nat) (List.drop (0 : Nat) b))).getD (14 : Nat) (0 : Int), (List.take (16 : Nat) (List.take (16 : Nat) (List.drop (0 : Nat)
  b))).getD (15 : Nat) (0 : Int)], (16 : Int), (0 : Int)) = (decDigest b).triple []) := by kernel_rfl
theorem getInts_nf (b : List Int) : fnwp X3 5 28 getIntsSp b = (((1 : Int) = (1 : Int) ∨ (1 : Int) = (16 : Int)) ∧ ((!decide (((decLen (1 : Int) b).triple (0 : Int)).snd.snd = (0 :
  Int))) = true → ([], (0 : Int), ((decLen (1 : Int) b).triple (0 : Int)).snd.snd) = (decList (1 : Int) decI b).triple []) ∧ ((!decide (((decLen (1 : Int) b).triple (0 :
  Int)).snd.snd = (0 : Int))) = false → ∃ (I : List Int × Int × Int → Prop), ∃ (μ : List Int × Int × Int → Nat), I ([], ((decLen (1 : Int) b).triple (0 : Int)).snd.fst, (0 : Int))
  ∧ ∀ (x : List Int × Int × Int), I x → (decide (x.snd.snd < ((decLen (1 : Int) b).triple (0 : Int)).fst) = true → ((0 : Int) ≤ x.snd.fst ∧ x.snd.fst ≤ (↑b.length : Int)) ∧ True ∧
  ((!decide ((decO (decI (List.take (b.length - x.snd.fst.toNat) (List.drop x.snd.fst.toNat b)))).snd.snd = (0 : Int))) = true → ([], (0 : Int), (decO (decI (List.take (b.length -
  x.snd.fst.toNat) (List.drop x.snd.fst.toNat b)))).snd.snd) = (decList (1 : Int) decI b).triple []) ∧ ((!decide ((decO (decI (List.take (b.length - x.snd.fst.toNat) (List.drop
  x.snd.fst.toNat b)))).snd.snd = (0 : Int))) = false → roomP X3 (3 : Nat) (x.fst.length + [(decO (decI (List.take (b.length - x.snd.fst.toNat) (List.drop x.snd.fst.toNat
  b)))).fst].length) ∧ isI64 (x.snd.fst + (decO (decI (List.take (b.length - x.snd.fst.toNat) (List.drop x.snd.fst.toNat b)))).snd.fst) ∧ isI64 (x.snd.snd + (1 : Int)) ∧ I (x.fst
  ++ [(decO (decI (List.take (b.length - x.snd.fst.toNat) (List.drop x.snd.fst.toNat b)))).fst], x.snd.fst + (decO (decI (List.take (b.length - x.snd.fst.toNat) (List.drop
  x.snd.fst.toNat b)))).snd.fst, x.snd.snd + (1 : Int)) ∧ μ (x.fst ++ [(decO (decI (List.take (b.length - x.snd.fst.toNat) (List.drop x.snd.fst.toNat b)))).fst], x.snd.fst + (decO
  (decI (List.take (b.length - x.snd.fst.toNat) (List.drop x.snd.fst.toNat b)))).snd.fst, x.snd.snd + (1 : Int)) < μ x)) ∧ (decide (x.snd.snd < ((decLen (1 : Int) b).triple (0 :
  Int)).fst) = false → (x.fst, x.snd.fst, (0 : Int)) = (decList (1 : Int) decI b).triple []))) := by kernel_rfl
theorem rGetInts_nf (b : List Int) : fnwp X3 5 29 getIntsSp b = (((1 : Int) = (1 : Int) ∨ (1 : Int) = (16 : Int)) ∧ ((!decide (((decLen (1 : Int) b).triple (0 : Int)).snd.snd = (0
  : Int))) = true → ([], (0 : Int), ((decLen (1 : Int) b).triple (0 : Int)).snd.snd) = (decList (1 : Int) decI b).triple []) ∧ ((!decide (((decLen (1 : Int) b).triple (0 :
  Int)).snd.snd = (0 : Int))) = false → ∃ (I : List Int × Int × Int → Prop), ∃ (μ : List Int × Int × Int → Nat), I ([], ((decLen (1 : Int) b).triple (0 : Int)).snd.fst, (0 : Int))
  ∧ ∀ (x : List Int × Int × Int), I x → (decide (x.snd.snd < ((decLen (1 : Int) b).triple (0 : Int)).fst) = true → ((0 : Int) ≤ x.snd.fst ∧ x.snd.fst ≤ (↑b.length : Int)) ∧ True ∧
  ((!decide ((decO (decI (List.take (b.length - x.snd.fst.toNat) (List.drop x.snd.fst.toNat b)))).snd.snd = (0 : Int))) = true → ([], (0 : Int), (decO (decI (List.take (b.length -
  x.snd.fst.toNat) (List.drop x.snd.fst.toNat b)))).snd.snd) = (decList (1 : Int) decI b).triple []) ∧ ((!decide ((decO (decI (List.take (b.length - x.snd.fst.toNat) (List.drop
  x.snd.fst.toNat b)))).snd.snd = (0 : Int))) = false → roomP X3 (3 : Nat) (x.fst.length + [(decO (decI (List.take (b.length - x.snd.fst.toNat) (List.drop x.snd.fst.toNat
  b)))).fst].length) ∧ isI64 (x.snd.fst + (decO (decI (List.take (b.length - x.snd.fst.toNat) (List.drop x.snd.fst.toNat b)))).snd.fst) ∧ isI64 (x.snd.snd + (1 : Int)) ∧ I (x.fst
  ++ [(decO (decI (List.take (b.length - x.snd.fst.toNat) (List.drop x.snd.fst.toNat b)))).fst], x.snd.fst + (decO (decI (List.take (b.length - x.snd.fst.toNat) (List.drop
  x.snd.fst.toNat b)))).snd.fst, x.snd.snd + (1 : Int)) ∧ μ (x.fst ++ [(decO (decI (List.take (b.length - x.snd.fst.toNat) (List.drop x.snd.fst.toNat b)))).fst], x.snd.fst + (decO
  (decI (List.take (b.length - x.snd.fst.toNat) (List.drop x.snd.fst.toNat b)))).snd.fst, x.snd.snd + (1 : Int)) < μ x)) ∧ (decide (x.snd.snd < ((decLen (1 : Int) b).triple (0 :
  Int)).fst) = false → (x.fst, x.snd.fst, (0 : Int)) = (decList (1 : Int) decI b).triple []))) := by kernel_rfl
theorem getStrings_nf (b : List Int) : fnwp X3 5 31 getStringsSp b = (((1 : Int) = (1 : Int) ∨ (1 : Int) = (16 : Int)) ∧ ((!decide (((decLen (1 : Int) b).triple (0 : Int)).snd.snd
  = (0 : Int))) = true → ([], (0 : Int), ((decLen (1 : Int) b).triple (0 : Int)).snd.snd) = (decList (1 : Int) decBytes b).triple []) ∧ ((!decide (((decLen (1 : Int) b).triple (0 :
  Int)).snd.snd = (0 : Int))) = false → ∃ (I : List (List Int) × Int × Int → Prop), ∃ (μ : List (List Int) × Int × Int → Nat), I ([], ((decLen (1 : Int) b).triple (0 :
  Int)).snd.fst, (0 : Int)) ∧ ∀ (x : List (List Int) × Int × Int), I x → (decide (x.snd.snd < ((decLen (1 : Int) b).triple (0 : Int)).fst) = true → ((0 : Int) ≤ x.snd.fst ∧
  x.snd.fst ≤ (↑b.length : Int)) ∧ True ∧ ((!decide (((decBytes (List.take (b.length - x.snd.fst.toNat) (List.drop x.snd.fst.toNat b))).triple []).snd.snd = (0 : Int))) = true →
  ([], (0 : Int), ((decBytes (List.take (b.length - x.snd.fst.toNat) (List.drop x.snd.fst.toNat b))).triple []).snd.snd) = (decList (1 : Int) decBytes b).triple []) ∧ ((!decide
  (((decBytes (List.take (b.length - x.snd.fst.toNat) (List.drop x.snd.fst.toNat b))).triple []).snd.snd = (0 : Int))) = false → roomP X3 (9 : Nat) (x.fst.length + [((decBytes
  (List.take (b.length - x.snd.fst.toNat) (List.drop x.snd.fst.toNat b))).triple []).fst].length) ∧ isI64 (x.snd.fst + ((decBytes (List.take (b.length - x.snd.fst.toNat) (List.drop
  x.snd.fst.toNat b))).triple []).snd.fst) ∧ isI64 (x.snd.snd + (1 : Int)) ∧ I (x.fst ++ [((decBytes (List.take (b.length - x.snd.fst.toNat) (List.drop x.snd.fst.toNat b))).triple
  []).fst], x.snd.fst + ((decBytes (List.take (b.length - x.snd.fst.toNat) (List.drop x.snd.fst.toNat b))).triple []).snd.fst, x.snd.snd + (1 : Int)) ∧ μ (x.fst ++ [((decBytes
  (List.take (b.length - x.snd.fst.toNat) (List.drop x.snd.fst.toNat b))).triple []).fst], x.snd.fst + ((decBytes (List.take (b.length - x.snd.fst.toNat) (List.drop x.snd.fst.toNat
  b))).triple []).snd.fst, x.snd.snd + (1 : Int)) < μ x)) ∧ (decide (x.snd.snd < ((decLen (1 : Int) b).triple (0 : Int)).fst) = false → (x.fst, x.snd.fst, (0 : Int)) = (decList (1
  : Int) decBytes b).triple []))) := by kernel_rfl
theorem rGetStrings_nf (b : List Int) : fnwp X3 5 32 getStringsSp b = (((1 : Int) = (1 : Int) ∨ (1 : Int) = (16 : Int)) ∧ ((!decide (((decLen (1 : Int) b).triple (0 : Int)).snd.snd
  = (0 : Int))) = true → ([], (0 : Int), ((decLen (1 : Int) b).triple (0 : Int)).snd.snd) = (decList (1 : Int) decBytes b).triple []) ∧ ((!decide (((decLen (1 : Int) b).triple (0 :
  Int)).snd.snd = (0 : Int))) = false → ∃ (I : List (List Int) × Int × Int → Prop), ∃ (μ : List (List Int) × Int × Int → Nat), I ([], ((decLen (1 : Int) b).triple (0 :
  Int)).snd.fst, (0 : Int)) ∧ ∀ (x : List (List Int) × Int × Int), I x → (decide (x.snd.snd < ((decLen (1 : Int) b).triple (0 : Int)).fst) = true → ((0 : Int) ≤ x.snd.fst ∧
  x.snd.fst ≤ (↑b.length : Int)) ∧ True ∧ ((!decide (((decBytes (List.take (b.length - x.snd.fst.toNat) (List.drop x.snd.fst.toNat b))).triple []).snd.snd = (0 : Int))) = true →
  ([], (0 : Int), ((decBytes (List.take (b.length - x.snd.fst.toNat) (List.drop x.snd.fst.toNat b))).triple []).snd.snd) = (decList (1 : Int) decBytes b).triple []) ∧ ((!decide
  (((decBytes (List.take (b.length - x.snd.fst.toNat) (List.drop x.snd.fst.toNat b))).triple []).snd.snd = (0 : Int))) = false → roomP X3 (9 : Nat) (x.fst.length + [((decBytes
  (List.take (b.length - x.snd.fst.toNat) (List.drop x.snd.fst.toNat b))).triple []).fst].length) ∧ isI64 (x.snd.fst + ((decBytes (List.take (b.length - x.snd.fst.toNat) (List.drop
  x.snd.fst.toNat b))).triple []).snd.fst) ∧ isI64 (x.snd.snd + (1 : Int)) ∧ I (x.fst ++ [((decBytes (List.take (b.length - x.snd.fst.toNat) (List.drop x.snd.fst.toNat b))).triple
  []).fst], x.snd.fst + ((decBytes (List.take (b.length - x.snd.fst.toNat) (List.drop x.snd.fst.toNat b))).triple []).snd.fst, x.snd.snd + (1 : Int)) ∧ μ (x.fst ++ [((decBytes
  (List.take (b.length - x.snd.fst.toNat) (List.drop x.snd.fst.toNat b))).triple []).fst], x.snd.fst + ((decBytes (List.take (b.length - x.snd.fst.toNat) (List.drop x.snd.fst.toNat
  b))).triple []).snd.fst, x.snd.snd + (1 : Int)) < μ x)) ∧ (decide (x.snd.snd < ((decLen (1 : Int) b).triple (0 : Int)).fst) = false → (x.fst, x.snd.fst, (0 : Int)) = (decList (1
  : Int) decBytes b).triple []))) := by kernel_rfl
theorem getDigests_nf (b : List Int) : fnwp X3 5 34 getDigestsSp b = (((16 : Int) = (1 : Int) ∨ (16 : Int) = (16 : Int)) ∧ ((!decide (((decLen (16 : Int) b).triple (0 :
  Int)).snd.snd = (0 : Int))) = true → ([], (0 : Int), ((decLen (16 : Int) b).triple (0 : Int)).snd.snd) = (decList (16 : Int) decDigest b).triple []) ∧ ((!decide (((decLen (16 :
  Int) b).triple (0 : Int)).snd.snd = (0 : Int))) = false → ∃ (I : List (List Int) × Int × Int → Prop), ∃ (μ : List (List Int) × Int × Int → Nat), I ([], ((decLen (16 : Int)
  b).triple (0 : Int)).snd.fst, (0 : Int)) ∧ ∀ (x : List (List Int) × Int × Int), I x → (decide (x.snd.snd < ((decLen (16 : Int) b).triple (0 : Int)).fst) = true → ((0 : Int) ≤
  x.snd.fst ∧ x.snd.fst ≤ (↑b.length : Int)) ∧ (16 : Nat) ≤ (List.take (b.length - x.snd.fst.toNat) (List.drop x.snd.fst.toNat b)).length ∧ ((!decide (((decDigest (List.take
  (b.length - x.snd.fst.toNat) (List.drop x.snd.fst.toNat b))).triple []).snd.snd = (0 : Int))) = true → ([], (0 : Int), ((decDigest (List.take (b.length - x.snd.fst.toNat)
  (List.drop x.snd.fst.toNat b))).triple []).snd.snd) = (decList (16 : Int) decDigest b).triple []) ∧ ((!decide (((decDigest (List.take (b.length - x.snd.fst.toNat) (List.drop
  x.snd.fst.toNat b))).triple []).snd.snd = (0 : Int))) = false → roomP X3 (57 : Nat) (x.fst.length + [[((decDigest (List.take (b.length - x.snd.fst.toNat) (List.drop
  x.snd.fst.toNat b))).triple []).fst.getD (0 : Nat) (0 : Int), ((decDigest (List.take (b.length - x.snd.fst.toNat) (List.drop x.snd.fst.toNat b))).triple []).fst.getD (1 : Nat) (0
  : Int), ((decDigest (List.take (b.length - x.snd.fst.toNat) (List.drop x.snd.fst.toNat b))).triple []).fst.getD (2 : Nat) (0 : Int), ((decDigest (List.take (b.length -
  x.snd.fst.toNat) (List.drop x.snd.fst.toNat b))).triple []).fst.getD (3 : Nat) (0 : Int), ((decDigest (List.take (b.length - x.snd.fst.toNat) (List.drop x.snd.fst.toNat
  b))).triple []).fst.getD (4 : Nat) (0 : Int), ((decDigest (List.take (b.length - x.snd.fst.toNat) (List.drop x.snd.fst.toNat b))).triple []).fst.getD (5 : Nat) (0 : Int),
  ((decDigest (List.take (b.length - x.snd.fst.toNat) (List.drop x.snd.fst.toNat b))).triple []).fst.getD (6 : Nat) (0 : Int), ((decDigest (List.take (b.length - x.snd.fst.toNat)
  (List.drop x.snd.fst.toNat b))).triple []).fst.getD (7 : Nat) (0 : Int), ((decDigest (List.take (b.length - x.snd.fst.toNat) (List.drop x.snd.fst.toNat b))).triple []).fst.getD
  (8 : Nat) (0 : Int), ((decDigest (List.take (b.length - x.snd.fst.toNat) (List.drop x.snd.fst.toNat b))).triple []).fst.getD (9 : Nat) (0 : Int), ((decDigest (List.take (b.length
  - x.snd.fst.toNat) (List.drop x.snd.fst.toNat b))).triple []).fst.getD (10 : Nat) (0 : Int), ((decDigest (List.take (b.length - x.snd.fst.toNat) (List.drop x.snd.fst.toNat
  b))).triple []).fst.getD (11 : Nat) (0 : Int), ((decDigest (List.take (b.length - x.snd.fst.toNat) (List.drop x.snd.fst.toNat b))).triple []).fst.getD (12 : Nat) (0 : Int),
  ((decDigest (List.take (b.length - x.snd.fst.toNat) (List.drop x.snd.fst.toNat b))).triple []).fst.getD (13 : Nat) (0 : Int), ((decDigest (List.take (b.length - x.snd.fst.toNat)
  (List.drop x.snd.fst.toNat b))).triple []).fst.getD (14 : Nat) (0 : Int), ((decDigest (List.take (b.length - x.snd.fst.toNat) (List.drop x.snd.fst.toNat b))).triple []).fst.getD
  (15 : Nat) (0 : Int)]].length) ∧ isI64 (x.snd.fst + ((decDigest (List.take (b.length - x.snd.fst.toNat) (List.drop x.snd.fst.toNat b))).triple []).snd.fst) ∧ isI64 (x.snd.snd +
  (1 : Int)) ∧ I (x.fst ++ [[((decDigest (List.take (b.length - x.snd.fst.toNat) (List.drop x.snd.fst.toNat b))).triple []).fst.getD (0 : Nat) (0 : Int), ((decDigest (List.take
  (b.length - x.snd.fst.toNat) (List.drop x.snd.fst.toNat b))).triple []).fst.getD (1 : Nat) (0 : Int), ((decDigest (List.take (b.length - x.snd.fst.toNat) (List.drop
  x.snd.fst.toNat b))).triple []).fst.getD (2 : Nat) (0 : Int), ((decDigest (List.take (b.length - x.snd.fst.toNat) (List.drop x.snd.fst.toNat b))).triple []).fst.getD (3 : Nat) (0
  : Int), ((decDigest (List.take (b.length - x.snd.fst.toNat) (List.drop x.snd.fst.toNat b))).triple []).fst.getD (4 : Nat) (0 : Int), ((decDigest (List.take (b.length -
  x.snd.fst.toNat) (List.drop x.snd.fst.toNat b))).triple []).fst.getD (5 : Nat) (0 : Int), ((decDigest (List.take (b.length - x.snd.fst.toNat) (List.drop x.snd.fst.toNat
  b))).triple []).fst.getD (6 : Nat) (0 : Int), ((decDigest (List.take (b.length - x.snd.fst.toNat) (List.drop x.snd.fst.toNat b))).triple []).fst.getD (7 : Nat) (0 : Int),
  ((decDigest (List.take (b.length - x.snd.fst.toNat) (List.drop x.snd.fst.toNat b))).triple []).fst.getD (8 : Nat) (0 : Int), ((decDigest (List.take (b.length - x.snd.fst.toNat)
  (List.drop x.snd.fst.toNat b))).triple []).fst.getD (9 : Nat) (0 : Int), ((decDigest (List.take (b.length - x.snd.fst.toNat) (List.drop x.snd.fst.toNat b))).triple []).fst.getD
  (10 : Nat) (0 : Int), ((decDigest (List.take (b.length - x.snd.fst.toNat) (List.drop x.snd.fst.toNat b))).triple []).fst.getD (11 : Nat) (0 : Int), ((decDigest (List.take
  (b.length - x.snd.fst.toNat) (List.drop x.snd.fst.toNat b))).triple []).fst.getD (12 : Nat) (0 : Int), ((decDigest (List.take (b.length - x.snd.fst.toNat) (List.drop
  x.snd.fst.toNat b))).triple []).fst.getD (13 : Nat) (0 : Int), ((decDigest (List.take (b.length - x.snd.fst.toNat) (List.drop x.snd.fst.toNat b))).triple []).fst.getD (14 : Nat)
  (0 : Int), ((decDigest (List.take (b.length - x.snd.fst.toNat) (List.drop x.snd.fst.toNat b))).triple []).fst.getD (15 : Nat) (0 : Int)]], x.snd.fst + ((decDigest (List.take
  (b.length - x.snd.fst.toNat) (List.drop x.snd.fst.toNat b))).triple []).snd.fst, x.snd.snd + (1 : Int)) ∧ μ (x.fst ++ [[((decDigest (List.take (b.length - x.snd.fst.toNat)
  (List.drop x.snd.fst.toNat b))).triple []).fst.getD (0 : Nat) (0 : Int), ((decDigest (List.take (b.length - x.snd.fst.toNat) (List.drop x.snd.fst.toNat b))).triple []).fst.getD
  (1 : Nat) (0 : Int), ((decDigest (List.take (b.length - x.snd.fst.toNat) (List.drop x.snd.fst.toNat b))).triple []).fst.getD (2 : Nat) (0 : Int), ((decDigest (List.take (b.length
  - x.snd.fst.toNat) (List.drop x.snd.fst.toNat b))).triple []).fst.getD (3 : Nat) (0 : Int), ((decDigest (List.take (b.length - x.snd.fst.toNat) (List.drop x.snd.fst.toNat
  b))).triple []).fst.getD (4 : Nat) (0 : Int), ((decDigest (List.take (b.length - x.snd.fst.toNat) (List.drop x.snd.fst.toNat b))).triple []).fst.getD (5 : Nat) (0 : Int),
  ((decDigest (List.take (b.length - x.snd.fst.toNat) (List.drop x.snd.fst.toNat b))).triple []).fst.getD (6 : Nat) (0 : Int), ((decDigest (List.take (b.length - x.snd.fst.toNat)
  (List.drop x.snd.fst.toNat b))).triple []).fst.getD (7 : Nat) (0 : Int), ((decDigest (List.take (b.length - x.snd.fst.toNat) (List.drop x.snd.fst.toNat b))).triple []).fst.getD
  (8 : Nat) (0 : Int), ((decDigest (List.take (b.length - x.snd.fst.toNat) (List.drop x.snd.fst.toNat b))).triple []).fst.getD (9 : Nat) (0 : Int), ((decDigest (List.take (b.length
  - x.snd.fst.toNat) (List.drop x.snd.fst.toNat b))).triple []).fst.getD (10 : Nat) (0 : Int), ((decDigest (List.take (b.length - x.snd.fst.toNat) (List.drop x.snd.fst.toNat
  b))).triple []).fst.getD (11 : Nat) (0 : Int), ((decDigest (List.take (b.length - x.snd.fst.toNat) (List.drop x.snd.fst.toNat b))).triple []).fst.getD (12 : Nat) (0 : Int),
  ((decDigest (List.take (b.length - x.snd.fst.toNat) (List.drop x.snd.fst.toNat b))).triple []).fst.getD (13 : Nat) (0 : Int), ((decDigest (List.take (b.length - x.snd.fst.toNat)
  (List.drop x.snd.fst.toNat b))).triple []).fst.getD (14 : Nat) (0 : Int), ((decDigest (List.take (b.length - x.snd.fst.toNat) (List.drop x.snd.fst.toNat b))).triple []).fst.getD
  (15 : Nat) (0 : Int)]], x.snd.fst + ((decDigest (List.take (b.length - x.snd.fst.toNat) (List.drop x.snd.fst.toNat b))).triple []).snd.fst, x.snd.snd + (1 : Int)) < μ x)) ∧
  (decide (x.snd.snd < ((decLen (16 : Int) b).triple (0 : Int)).fst) = false → (x.fst, x.snd.fst, (0 : Int)) = (decList (16 : Int) decDigest b).triple []))) := by kernel_rfl
theorem rGetDigests_nf (b : List Int) : fnwp X3 5 35 getDigestsSp b = (((16 : Int) = (1 : Int) ∨ (16 : Int) = (16 : Int)) ∧ ((!decide (((decLen (16 : Int) b).triple (0 :
  Int)).snd.snd = (0 : Int))) = true → ([], (0 : Int), ((decLen (16 : Int) b).triple (0 : Int)).snd.snd) = (decList (16 : Int) decDigest b).triple []) ∧ ((!decide (((decLen (16 :
  Int) b).triple (0 : Int)).snd.snd = (0 : Int))) = false → ∃ (I : List (List Int) × Int × Int → Prop), ∃ (μ : List (List Int) × Int × Int → Nat), I ([], ((decLen (16 : Int)
  b).triple (0 : Int)).snd.fst, (0 : Int)) ∧ ∀ (x : List (List Int) × Int × Int), I x → (decide (x.snd.snd < ((decLen (16 : Int) b).triple (0 : Int)).fst) = true → isI64 (x.snd.fst
  + (0 : Int)) ∧ ((0 : Int) ≤ x.snd.fst + (0 : Int) ∧ x.snd.fst + (0 : Int) < (↑b.length : Int)) ∧ ((0 : Int) ≤ (0 : Int) ∧ (0 : Int) < (16 : Int)) ∧ isI64 (1 : Int) ∧ isI64
  (x.snd.fst + (1 : Int)) ∧ ((0 : Int) ≤ x.snd.fst + (1 : Int) ∧ x.snd.fst + (1 : Int) < (↑b.length : Int)) ∧ ((0 : Int) ≤ (1 : Int) ∧ (1 : Int) < (16 : Int)) ∧ isI64 (2 : Int) ∧
  isI64 (x.snd.fst + (2 : Int)) ∧ ((0 : Int) ≤ x.snd.fst + (2 : Int) ∧ x.snd.fst + (2 : Int) < (↑b.length : Int)) ∧ ((0 : Int) ≤ (2 : Int) ∧ (2 : Int) < (16 : Int)) ∧ isI64 (3 :
  Int) ∧ isI64 (x.snd.fst + (3 : Int)) ∧ ((0 : Int) ≤ x.snd.fst + (3 : Int) ∧ x.snd.fst + (3 : Int) < (↑b.length : Int)) ∧ ((0 : Int) ≤ (3 : Int) ∧ (3 : Int) < (16 : Int)) ∧ isI64
  (4 : Int) ∧ isI64 (x.snd.fst + (4 : Int)) ∧ ((0 : Int) ≤ x.snd.fst + (4 : Int) ∧ x.snd.fst + (4 : Int) < (↑b.length : Int)) ∧ ((0 : Int) ≤ (4 : Int) ∧ (4 : Int) < (16 : Int)) ∧
  isI64 (5 : Int) ∧ isI64 (x.snd.fst + (5 : Int)) ∧ ((0 : Int) ≤ x.snd.fst + (5 : Int) ∧ x.snd.fst + (5 : Int) < (↑b.length : Int)) ∧ ((0 : Int) ≤ (5 : Int) ∧ (5 : Int) < (16 :
  Int)) ∧ isI64 (6 : Int) ∧ isI64 (x.snd.fst + (6 : Int)) ∧ ((0 : Int) ≤ x.snd.fst + (6 : Int) ∧ x.snd.fst + (6 : Int) < (↑b.length : Int)) ∧ ((0 : Int) ≤ (6 : Int) ∧ (6 : Int) <
  (16 : Int)) ∧ isI64 (7 : Int) ∧ isI64 (x.snd.fst + (7 : Int)) ∧ ((0 : Int) ≤ x.snd.fst + (7 : Int) ∧ x.snd.fst + (7 : Int) < (↑b.length : Int)) ∧ ((0 : Int) ≤ (7 : Int) ∧ (7 :
  Int) < (16 : Int)) ∧ isI64 (8 : Int) ∧ isI64 (x.snd.fst + (8 : Int)) ∧ ((0 : Int) ≤ x.snd.fst + (8 : Int) ∧ x.snd.fst + (8 : Int) < (↑b.length : Int)) ∧ ((0 : Int) ≤ (8 : Int) ∧
  (8 : Int) < (16 : Int)) ∧ isI64 (9 : Int) ∧ isI64 (x.snd.fst + (9 : Int)) ∧ ((0 : Int) ≤ x.snd.fst + (9 : Int) ∧ x.snd.fst + (9 : Int) < (↑b.length : Int)) ∧ ((0 : Int) ≤ (9 :
  Int) ∧ (9 : Int) < (16 : Int)) ∧ isI64 (10 : Int) ∧ isI64 (x.snd.fst + (10 : Int)) ∧ ((0 : Int) ≤ x.snd.fst + (10 : Int) ∧ x.snd.fst + (10 : Int) < (↑b.length : Int)) ∧ ((0 :
  Int) ≤ (10 : Int) ∧ (10 : Int) < (16 : Int)) ∧ isI64 (11 : Int) ∧ isI64 (x.snd.fst + (11 : Int)) ∧ ((0 : Int) ≤ x.snd.fst + (11 : Int) ∧ x.snd.fst + (11 : Int) < (↑b.length :
  Int)) ∧ ((0 : Int) ≤ (11 : Int) ∧ (11 : Int) < (16 : Int)) ∧ isI64 (12 : Int) ∧ isI64 (x.snd.fst + (12 : Int)) ∧ ((0 : Int) ≤ x.snd.fst + (12 : Int) ∧ x.snd.fst + (12 : Int) <
  (↑b.length : Int)) ∧ ((0 : Int) ≤ (12 : Int) ∧ (12 : Int) < (16 : Int)) ∧ isI64 (13 : Int) ∧ isI64 (x.snd.fst + (13 : Int)) ∧ ((0 : Int) ≤ x.snd.fst + (13 : Int) ∧ x.snd.fst +
  (13 : Int) < (↑b.length : Int)) ∧ ((0 : Int) ≤ (13 : Int) ∧ (13 : Int) < (16 : Int)) ∧ isI64 (14 : Int) ∧ isI64 (x.snd.fst + (14 : Int)) ∧ ((0 : Int) ≤ x.snd.fst + (14 : Int) ∧
  x.snd.fst + (14 : Int) < (↑b.length : Int)) ∧ ((0 : Int) ≤ (14 : Int) ∧ (14 : Int) < (16 : Int)) ∧ isI64 (15 : Int) ∧ isI64 (x.snd.fst + (15 : Int)) ∧ ((0 : Int) ≤ x.snd.fst +
  (15 : Int) ∧ x.snd.fst + (15 : Int) < (↑b.length : Int)) ∧ ((0 : Int) ≤ (15 : Int) ∧ (15 : Int) < (16 : Int)) ∧ isI64 (16 : Int) ∧ roomP X3 (57 : Nat) (x.fst.length + [[b.getD
  (x.snd.fst + (0 : Int)).toNat (0 : Int), b.getD (x.snd.fst + (1 : Int)).toNat (0 : Int), b.getD (x.snd.fst + (2 : Int)).toNat (0 : Int), b.getD (x.snd.fst + (3 : Int)).toNat (0 :
  Int), b.getD (x.snd.fst + (4 : Int)).toNat (0 : Int), b.getD (x.snd.fst + (5 : Int)).toNat (0 : Int), b.getD (x.snd.fst + (6 : Int)).toNat (0 : Int), b.getD (x.snd.fst + (7 :
  Int)).toNat (0 : Int), b.getD (x.snd.fst + (8 : Int)).toNat (0 : Int), b.getD (x.snd.fst + (9 : Int)).toNat (0 : Int), b.getD (x.snd.fst + (10 : Int)).toNat (0 : Int), b.getD
  (x.snd.fst + (11 : Int)).toNat (0 : Int), b.getD (x.snd.fst + (12 : Int)).toNat (0 : Int), b.getD (x.snd.fst + (13 : Int)).toNat (0 : Int), b.getD (x.snd.fst + (14 : Int)).toNat
  (0 : Int), b.getD (x.snd.fst + (15 : Int)).toNat (0 : Int)]].length) ∧ isI64 (x.snd.fst + (16 : Int)) ∧ isI64 (x.snd.snd + (1 : Int)) ∧ I (x.fst ++ [[b.getD (x.snd.fst + (0 :
  Int)).toNat (0 : Int), b.getD (x.snd.fst + (1 : Int)).toNat (0 : Int), b.getD (x.snd.fst + (2 : Int)).toNat (0 : Int), b.getD (x.snd.fst + (3 : Int)).toNat (0 : Int), b.getD
  (x.snd.fst + (4 : Int)).toNat (0 : Int), b.getD (x.snd.fst + (5 : Int)).toNat (0 : Int), b.getD (x.snd.fst + (6 : Int)).toNat (0 : Int), b.getD (x.snd.fst + (7 : Int)).toNat (0 :
  Int), b.getD (x.snd.fst + (8 : Int)).toNat (0 : Int), b.getD (x.snd.fst + (9 : Int)).toNat (0 : Int), b.getD (x.snd.fst + (10 : Int)).toNat (0 : Int), b.getD (x.snd.fst + (11 :
  Int)).toNat (0 : Int), b.getD (x.snd.fst + (12 : Int)).toNat (0 : Int), b.getD (x.snd.fst + (13 : Int)).toNat (0 : Int), b.getD (x.snd.fst + (14 : Int)).toNat (0 : Int), b.getD
  (x.snd.fst + (15 : Int)).toNat (0 : Int)]], x.snd.fst + (16 : Int), x.snd.snd + (1 : Int)) ∧ μ (x.fst ++ [[b.getD (x.snd.fst + (0 : Int)).toNat (0 : Int), b.getD (x.snd.fst + (1
  : Int)).toNat (0 : Int), b.getD (x.snd.fst + (2 : Int)).toNat (0 : Int), b.getD (x.snd.fst + (3 : Int)).toNat (0 : Int), b.getD (x.snd.fst + (4 : Int)).toNat (0 : Int), b.getD
  (x.snd.fst + (5 : Int)).toNat (0 : Int), b.getD (x.snd.fst + (6 : Int)).toNat (0 : Int), b.getD (x.snd.fst + (7 : Int)).toNat (0 : Int), b.getD (x.snd.fst + (8 : Int)).toNat (0 :
  Int), b.getD (x.snd.fst + (9 : Int)).toNat (0 : Int), b.getD (x.snd.fst + (10 : Int)).toNat (0 : Int), b.getD (x.snd.fst + (11 : Int)).toNat (0 : Int), b.getD (x.snd.fst + (12 :
  Int)).toNat (0 : Int), b.getD (x.snd.fst + (13 : Int)).toNat (0 : Int), b.getD (x.snd.fst + (14 : Int)).toNat (0 : Int), b.getD (x.snd.fst + (15 : Int)).toNat (0 : Int)]],
  x.snd.fst + (16 : Int), x.snd.snd + (1 : Int)) < μ x) ∧ (decide (x.snd.snd < ((decLen (16 : Int) b).triple (0 : Int)).fst) = false → (x.fst, x.snd.fst, (0 : Int)) = (decList (16
  : Int) decDigest b).triple []))) := by kernel_rfl
end Go.Proofs.Ytgneefndofeoaaa
