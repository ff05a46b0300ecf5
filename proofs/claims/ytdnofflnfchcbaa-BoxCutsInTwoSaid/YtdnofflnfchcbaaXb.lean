import Derived.Test.YtdnofflnfchcbaaXa
namespace Go.Proofs.Ytdnofflnfchcbaa
open Go.AM Go.PL
set_option linter.unusedVariables false
theorem isVec_nf (v : List Int) : fnwp B0 6 55 bvecSp v = ((decide ((1 : Int) ≤ (↑v.length : Int)) = true → (decide ((↑v.length : Int) ≤ (32 : Int)) = true → ∃ (I : Int → Prop), ∃
  (μ : Int → Nat), I (0 : Int) ∧ ∀ (x : Int), I x → (decide (x < (↑v.length : Int)) = true → ((0 : Int) ≤ x ∧ x < (↑v.length : Int)) ∧ (decide (v.getD x.toNat (0 : Int) < (-1000 :
  Int)) = true → (!decide ((0 : Int) ≤ x)) = bvec v) ∧ (decide (v.getD x.toNat (0 : Int) < (-1000 : Int)) = false → (decide ((1000 : Int) < v.getD x.toNat (0 : Int)) = true →
  (!decide ((0 : Int) ≤ x)) = bvec v) ∧ (decide ((1000 : Int) < v.getD x.toNat (0 : Int)) = false → isI64 (x + (1 : Int)) ∧ I (x + (1 : Int)) ∧ μ (x + (1 : Int)) < μ x))) ∧ (decide
  (x < (↑v.length : Int)) = false → true = bvec v)) ∧ (decide ((↑v.length : Int) ≤ (32 : Int)) = false → false = bvec v)) ∧ (decide ((1 : Int) ≤ (↑v.length : Int)) = false → false
  = bvec v)) := by kernel_rfl
theorem rVec_nf (v : List Int) : fnwp B0 6 25 bvecSp v = (∃ (I : Int → Prop), ∃ (μ : Int → Nat), I (0 : Int) ∧ ∀ (x : Int), I x → (decide (x < (↑v.length : Int)) = true → ((0 :
  Int) ≤ x ∧ x < (↑v.length : Int)) ∧ (decide (v.getD x.toNat (0 : Int) < (-1000 : Int)) = true → false = bvec v) ∧ (decide (v.getD x.toNat (0 : Int) < (-1000 : Int)) = false → ((0
  : Int) ≤ x ∧ x < (↑v.length : Int)) ∧ (decide ((1000 : Int) < v.getD x.toNat (0 : Int)) = true → false = bvec v) ∧ (decide ((1000 : Int) < v.getD x.toNat (0 : Int)) = false →
  isI64 (x + (1 : Int)) ∧ I (x + (1 : Int)) ∧ μ (x + (1 : Int)) < μ x))) ∧ (decide (x < (↑v.length : Int)) = false → (decide ((1 : Int) ≤ (↑v.length : Int)) = true → decide
  ((↑v.length : Int) ≤ (32 : Int)) = bvec v) ∧ (decide ((1 : Int) ≤ (↑v.length : Int)) = false → false = bvec v))) := by kernel_rfl
theorem isM_nf (v : Int) : fnwp B0 6 26 isMSp v = ((decide ((1 : Int) ≤ v) = true → decide (v ≤ (3 : Int)) = isM v) ∧ (decide ((1 : Int) ≤ v) = false → false = isM v)) := by
  kernel_rfl
theorem least_nf (x y : Int) : fnwp B0 6 58 minSp (x, y) = (min x y = min x y) := by kernel_rfl
theorem great_nf (x y : Int) : fnwp B0 6 57 maxSp (x, y) = (max x y = max x y) := by kernel_rfl
theorem wid_nf (x y : Int) : fnwp B0 6 49 widSp (x, y) = (isI64 (x - y) ∧ x - y = x - y) := by kernel_rfl
theorem nr_nf (x y z : Int) : fnwp B0 6 42 nrSp (x, y, z) = (isI64 (x - z) ∧ isI64 (z - y) ∧ max (max (0 : Int) (x - z)) (z - y) = max (0 : Int) (max (x - z) (z - y))) := by
  kernel_rfl
theorem fr_nf (x y z : Int) : fnwp B0 6 43 frSp (x, y, z) = (isI64 (y - z) ∧ isI64 (z - x) ∧ max (y - z) (z - x) = max (y - z) (z - x)) := by kernel_rfl
theorem idx_nf (v : List Int) (x : Int) : fnwp B0 6 50 idxSp (v, x) = (∃ (I : Int → Prop), ∃ (μ : Int → Nat), I (0 : Int) ∧ ∀ (x_1 : Int), I x_1 → (decide (x_1 < (↑v.length : Int))
  = true → ((0 : Int) ≤ x_1 ∧ x_1 < (↑v.length : Int)) ∧ (decide (x = v.getD x_1.toNat (0 : Int)) = true → x_1 = indexS x v) ∧ (decide (x = v.getD x_1.toNat (0 : Int)) = false →
  isI64 (x_1 + (1 : Int)) ∧ I (x_1 + (1 : Int)) ∧ μ (x_1 + (1 : Int)) < μ x_1)) ∧ (decide (x_1 < (↑v.length : Int)) = false → (-1 : Int) = indexS x v)) := by kernel_rfl
theorem max_nf (v : List Int) : fnwp B0 6 51 mxSp v = ((decide ((↑v.length : Int) < (1 : Int)) = true → False) ∧ (decide ((↑v.length : Int) < (1 : Int)) = false → ((0 : Int) ≤ (0 :
  Int) ∧ (0 : Int) < (↑v.length : Int)) ∧ ∃ (I : Int × Int → Prop), ∃ (μ : Int × Int → Nat), I (v.getD (0 : Nat) (0 : Int), (1 : Int)) ∧ ∀ (x : Int × Int), I x → (decide (x.snd <
  (↑v.length : Int)) = true → ((0 : Int) ≤ x.snd ∧ x.snd < (↑v.length : Int)) ∧ isI64 (x.snd + (1 : Int)) ∧ I (max x.fst (v.getD x.snd.toNat (0 : Int)), x.snd + (1 : Int)) ∧ μ (max
  x.fst (v.getD x.snd.toNat (0 : Int)), x.snd + (1 : Int)) < μ x) ∧ (decide (x.snd < (↑v.length : Int)) = false → x.fst = maxS v))) := by kernel_rfl
theorem same6_nf (a b : List Int) : fnwp B0 6 54 same6Sp (a, b) = (((!decide ((↑a.length : Int) = (↑b.length : Int))) = true → false = decide (a = b)) ∧ ((!decide ((↑a.length :
  Int) = (↑b.length : Int))) = false → ∃ (I : Int → Prop), ∃ (μ : Int → Nat), I (0 : Int) ∧ ∀ (x : Int), I x → (decide (x < (↑a.length : Int)) = true → ((0 : Int) ≤ x ∧ x <
  (↑a.length : Int)) ∧ ((0 : Int) ≤ x ∧ x < (↑b.length : Int)) ∧ ((!decide (a.getD x.toNat (0 : Int) = b.getD x.toNat (0 : Int))) = true → false = decide (a = b)) ∧ ((!decide
  (a.getD x.toNat (0 : Int) = b.getD x.toNat (0 : Int))) = false → isI64 (x + (1 : Int)) ∧ I (x + (1 : Int)) ∧ μ (x + (1 : Int)) < μ x)) ∧ (decide (x < (↑a.length : Int)) = false →
  true = decide (a = b)))) := by kernel_rfl
theorem rKey_nf (m : Int) (a b : List Int) : fnwp B0 6 28 rKeySp (m, a, b) = (∃ (I : Int × Int → Prop), ∃ (μ : Int × Int → Nat), I ((0 : Int), (0 : Int)) ∧ ∀ (x : Int × Int), I x →
  (decide (x.snd < (↑a.length : Int)) = true → ((0 : Int) ≤ x.snd ∧ x.snd < (↑a.length : Int)) ∧ ((0 : Int) ≤ x.snd ∧ x.snd < (↑b.length : Int)) ∧ isI64 (a.getD x.snd.toNat (0 :
  Int) - b.getD x.snd.toNat (0 : Int)) ∧ ((0 : Int) ≤ x.snd ∧ x.snd < (↑b.length : Int)) ∧ ((0 : Int) ≤ x.snd ∧ x.snd < (↑a.length : Int)) ∧ isI64 (b.getD x.snd.toNat (0 : Int) -
  a.getD x.snd.toNat (0 : Int)) ∧ (decide (m = (1 : Int)) = true → isI64 (x.fst + max (a.getD x.snd.toNat (0 : Int) - b.getD x.snd.toNat (0 : Int)) (b.getD x.snd.toNat (0 : Int) -
  a.getD x.snd.toNat (0 : Int))) ∧ (decide (m = (2 : Int)) = true → isI64 (max (a.getD x.snd.toNat (0 : Int) - b.getD x.snd.toNat (0 : Int)) (b.getD x.snd.toNat (0 : Int) - a.getD
  x.snd.toNat (0 : Int)) * max (a.getD x.snd.toNat (0 : Int) - b.getD x.snd.toNat (0 : Int)) (b.getD x.snd.toNat (0 : Int) - a.getD x.snd.toNat (0 : Int))) ∧ isI64 (x.fst + max
  (a.getD x.snd.toNat (0 : Int) - b.getD x.snd.toNat (0 : Int)) (b.getD x.snd.toNat (0 : Int) - a.getD x.snd.toNat (0 : Int)) + max (a.getD x.snd.toNat (0 : Int) - b.getD
  x.snd.toNat (0 : Int)) (b.getD x.snd.toNat (0 : Int) - a.getD x.snd.toNat (0 : Int)) * max (a.getD x.snd.toNat (0 : Int) - b.getD x.snd.toNat (0 : Int)) (b.getD x.snd.toNat (0 :
  Int) - a.getD x.snd.toNat (0 : Int))) ∧ (decide (m = (3 : Int)) = true → isI64 (x.snd + (1 : Int)) ∧ I (max (x.fst + max (a.getD x.snd.toNat (0 : Int) - b.getD x.snd.toNat (0 :
  Int)) (b.getD x.snd.toNat (0 : Int) - a.getD x.snd.toNat (0 : Int)) + max (a.getD x.snd.toNat (0 : Int) - b.getD x.snd.toNat (0 : Int)) (b.getD x.snd.toNat (0 : Int) - a.getD
  x.snd.toNat (0 : Int)) * max (a.getD x.snd.toNat (0 : Int) - b.getD x.snd.toNat (0 : Int)) (b.getD x.snd.toNat (0 : Int) - a.getD x.snd.toNat (0 : Int))) (max (a.getD x.snd.toNat
  (0 : Int) - b.getD x.snd.toNat (0 : Int)) (b.getD x.snd.toNat (0 : Int) - a.getD x.snd.toNat (0 : Int))), x.snd + (1 : Int)) ∧ μ (max (x.fst + max (a.getD x.snd.toNat (0 : Int) -
  b.getD x.snd.toNat (0 : Int)) (b.getD x.snd.toNat (0 : Int) - a.getD x.snd.toNat (0 : Int)) + max (a.getD x.snd.toNat (0 : Int) - b.getD x.snd.toNat (0 : Int)) (b.getD
  x.snd.toNat (0 : Int) - a.getD x.snd.toNat (0 : Int)) * max (a.getD x.snd.toNat (0 : Int) - b.getD x.snd.toNat (0 : Int)) (b.getD x.snd.toNat (0 : Int) - a.getD x.snd.toNat (0 :
  Int))) (max (a.getD x.snd.toNat (0 : Int) - b.getD x.snd.toNat (0 : Int)) (b.getD x.snd.toNat (0 : Int) - a.getD x.snd.toNat (0 : Int))), x.snd + (1 : Int)) < μ x) ∧ (decide (m =
  (3 : Int)) = false → isI64 (x.snd + (1 : Int)) ∧ I (x.fst + max (a.getD x.snd.toNat (0 : Int) - b.getD x.snd.toNat (0 : Int)) (b.getD x.snd.toNat (0 : Int) - a.getD x.snd.toNat
  (0 : Int)) + max (a.getD x.snd.toNat (0 : Int) - b.getD x.snd.toNat (0 : Int)) (b.getD x.snd.toNat (0 : Int) - a.getD x.snd.toNat (0 : Int)) * max (a.getD x.snd.toNat (0 : Int) -
  b.getD x.snd.toNat (0 : Int)) (b.getD x.snd.toNat (0 : Int) - a.getD x.snd.toNat (0 : Int)), x.snd + (1 : Int)) ∧ μ (x.fst + max (a.getD x.snd.toNat (0 : Int) - b.getD
  x.snd.toNat (0 : Int)) (b.getD x.snd.toNat (0 : Int) - a.getD x.snd.toNat (0 : Int)) + max (a.getD x.snd.toNat (0 : Int) - b.getD x.snd.toNat (0 : Int)) (b.getD x.snd.toNat (0 :
  Int) - a.getD x.snd.toNat (0 : Int)) * max (a.getD x.snd.toNat (0 : Int) - b.getD x.snd.toNat (0 : Int)) (b.getD x.snd.toNat (0 : Int) - a.getD x.snd.toNat (0 : Int)), x.snd + (1
  : Int)) < μ x)) ∧ (decide (m = (2 : Int)) = false → (decide (m = (3 : Int)) = true → isI64 (x.snd + (1 : Int)) ∧ I (max (x.fst + max (a.getD x.snd.toNat (0 : Int) - b.getD
  x.snd.toNat (0 : Int)) (b.getD x.snd.toNat (0 : Int) - a.getD x.snd.toNat (0 : Int))) (max (a.getD x.snd.toNat (0 : Int) - b.getD x.snd.toNat (0 : Int)) (b.getD x.snd.toNat (0 :
  Int) - a.getD x.snd.toNat (0 : Int))), x.snd + (1 : Int)) ∧ μ (max (x.fst + max (a.getD x.snd.toNat (0 : Int) - b.getD x.snd.toNat (0 : Int)) (b.getD x.snd.toNat (0 : Int) -
  a.getD x.snd.toNat (0 : Int))) (max (a.getD x.snd.toNat (0 : Int) - b.getD x.snd.toNat (0 : Int)) (b.getD x.snd.toNat (0 : Int) - a.getD x.snd.toNat (0 : Int))), x.snd + (1 :
  Int)) < μ x) ∧ (decide (m = (3 : Int)) = false → isI64 (x.snd + (1 : Int)) ∧ I (x.fst + max (a.getD x.snd.toNat (0 : Int) - b.getD x.snd.toNat (0 : Int)) (b.getD x.snd.toNat (0 :
  Int) - a.getD x.snd.toNat (0 : Int)), x.snd + (1 : Int)) ∧ μ (x.fst + max (a.getD x.snd.toNat (0 : Int) - b.getD x.snd.toNat (0 : Int)) (b.getD x.snd.toNat (0 : Int) - a.getD
  x.snd.toNat (0 : Int)), x.snd + (1 : Int)) < μ x))) ∧ (decide (m = (1 : Int)) = false → (decide (m = (2 : Int)) = true → isI64 (max (a.getD x.snd.toNat (0 : Int) - b.getD
  x.snd.toNat (0 : Int)) (b.getD x.snd.toNat (0 : Int) - a.getD x.snd.toNat (0 : Int)) * max (a.getD x.snd.toNat (0 : Int) - b.getD x.snd.toNat (0 : Int)) (b.getD x.snd.toNat (0 :
  Int) - a.getD x.snd.toNat (0 : Int))) ∧ isI64 (x.fst + max (a.getD x.snd.toNat (0 : Int) - b.getD x.snd.toNat (0 : Int)) (b.getD x.snd.toNat (0 : Int) - a.getD x.snd.toNat (0 :
  Int)) * max (a.getD x.snd.toNat (0 : Int) - b.getD x.snd.toNat (0 : Int)) (b.getD x.snd.toNat (0 : Int) - a.getD x.snd.toNat (0 : Int))) ∧ (decide (m = (3 : Int)) = true → isI64
  (x.snd + (1 : Int)) ∧ I (max (x.fst + max (a.getD x.snd.toNat (0 : Int) - b.getD x.snd.toNat (0 : Int)) (b.getD x.snd.toNat (0 : Int) - a.getD x.snd.toNat (0 : Int)) * max
  (a.getD x.snd.toNat (0 : Int) - b.getD x.snd.toNat (0 : Int)) (b.getD x.snd.toNat (0 : Int) - a.getD x.snd.toNat (0 : Int))) (max (a.getD x.snd.toNat (0 : Int) - b.getD
  x.snd.toNat (0 : Int)) (b.getD x.snd.toNat (0 : Int) - a.getD x.snd.toNat (0 : Int))), x.snd + (1 : Int)) ∧ μ (max (x.fst + max (a.getD x.snd.toNat (0 : Int) - b.getD x.snd.toNat
  (0 : Int)) (b.getD x.snd.toNat (0 : Int) - a.getD x.snd.toNat (0 : Int)) * max (a.getD x.snd.toNat (0 : Int) - b.getD x.snd.toNat (0 : Int)) (b.getD x.snd.toNat (0 : Int) -
  a.getD x.snd.toNat (0 : Int))) (max (a.getD x.snd.toNat (0 : Int) - b.getD x.snd.toNat (0 : Int)) (b.getD x.snd.toNat (0 : Int) - a.getD x.snd.toNat (0 : Int))), x.snd + (1 :
  Int)) < μ x) ∧ (decide (m = (3 : Int)) = false → isI64 (x.snd + (1 : Int)) ∧ I (x.fst + max (a.getD x.snd.toNat (0 : Int) - b.getD x.snd.toNat (0 : Int)) (b.getD x.snd.toNat (0 :
  Int) - a.getD x.snd.toNat (0 : Int)) * max (a.getD x.snd.toNat (0 : Int) - b.getD x.snd.toNat (0 : Int)) (b.getD x.snd.toNat (0 : Int) - a.getD x.snd.toNat (0 : Int)), x.snd + (1
  : Int)) ∧ μ (x.fst + max (a.getD x.snd.toNat (0 : Int) - b.getD x.snd.toNat (0 : Int)) (b.getD x.snd.toNat (0 : Int) - a.getD x.snd.toNat (0 : Int)) * max (a.getD x.snd.toNat (0
  : Int) - b.getD x.snd.toNat (0 : Int)) (b.getD x.snd.toNat (0 : Int) - a.getD x.snd.toNat (0 : Int)), x.snd + (1 : Int)) < μ x)) ∧ (decide (m = (2 : Int)) = false → (decide (m =
  (3 : Int)) = true → isI64 (x.snd + (1 : Int)) ∧ I (max x.fst (max (a.getD x.snd.toNat (0 : Int) - b.getD x.snd.toNat (0 : Int)) (b.getD x.snd.toNat (0 : Int) - a.getD x.snd.toNat
  (0 : Int))), x.snd + (1 : Int)) ∧ μ (max x.fst (max (a.getD x.snd.toNat (0 : Int) - b.getD x.snd.toNat (0 : Int)) (b.getD x.snd.toNat (0 : Int) - a.getD x.snd.toNat (0 : Int))),
  x.snd + (1 : Int)) < μ x) ∧ (decide (m = (3 : Int)) = false → isI64 (x.snd + (1 : Int)) ∧ I (x.fst, x.snd + (1 : Int)) ∧ μ (x.fst, x.snd + (1 : Int)) < μ x)))) ∧ (decide (x.snd <
  (↑a.length : Int)) = false → x.fst = sumK m a.length (keyF a b))) := by kernel_rfl
theorem cln_nf (v : List Int) : fnwpG B0 6 47 clnG v = (∀ (b : Bool), (b = true → v = []) → (b = true → [] = v) ∧ (b = false → roomP B0 (3 : Nat) v.length ∧ v = v)) := by
  kernel_rfl
theorem valid_nf (b : Box) : fnwp B1 6 24 bvalSp b = (True ∧ ((!bvec b.fst) = true → false = bval b) ∧ ((!bvec b.fst) = false → True ∧ ((!bvec b.snd.fst) = true → false = bval b) ∧
  ((!bvec b.snd.fst) = false → ((!decide ((↑b.fst.length : Int) = (↑b.snd.fst.length : Int))) = true → false = bval b) ∧ ((!decide ((↑b.fst.length : Int) = (↑b.snd.fst.length :
  Int))) = false → ∃ (I : Int → Prop), ∃ (μ : Int → Nat), I (0 : Int) ∧ ∀ (x : Int), I x → (decide (x < min (↑b.fst.length : Int) (↑b.snd.fst.length : Int)) = true → ((0 : Int) ≤ x
  ∧ x < (↑b.fst.length : Int)) ∧ ((0 : Int) ≤ x ∧ x < (↑b.snd.fst.length : Int)) ∧ (decide (b.snd.fst.getD x.toNat (0 : Int) < b.fst.getD x.toNat (0 : Int)) = true → false = bval
  b) ∧ (decide (b.snd.fst.getD x.toNat (0 : Int) < b.fst.getD x.toNat (0 : Int)) = false → isI64 (x + (1 : Int)) ∧ I (x + (1 : Int)) ∧ μ (x + (1 : Int)) < μ x)) ∧ (decide (x < min
  (↑b.fst.length : Int) (↑b.snd.fst.length : Int)) = false → true = bval b))))) := by kernel_rfl
theorem rValid_nf (b : Box) : fnwp B1 6 39 bvalSp b = (True ∧ ((!bvec b.fst) = true → false = bval b) ∧ ((!bvec b.fst) = false → True ∧ ((!bvec b.snd.fst) = true → false = bval b)
  ∧ ((!bvec b.snd.fst) = false → ((!decide ((↑b.fst.length : Int) = (↑b.snd.fst.length : Int))) = true → false = bval b) ∧ ((!decide ((↑b.fst.length : Int) = (↑b.snd.fst.length :
  Int))) = false → ∃ (I : Int → Prop), ∃ (μ : Int → Nat), I (0 : Int) ∧ ∀ (x : Int), I x → (decide (x < (↑b.fst.length : Int)) = true → ((0 : Int) ≤ x ∧ x < (↑b.fst.length : Int))
  ∧ ((0 : Int) ≤ x ∧ x < (↑b.snd.fst.length : Int)) ∧ (decide (b.snd.fst.getD x.toNat (0 : Int) < b.fst.getD x.toNat (0 : Int)) = true → false = bval b) ∧ (decide (b.snd.fst.getD
  x.toNat (0 : Int) < b.fst.getD x.toNat (0 : Int)) = false → isI64 (x + (1 : Int)) ∧ I (x + (1 : Int)) ∧ μ (x + (1 : Int)) < μ x)) ∧ (decide (x < (↑b.fst.length : Int)) = false →
  true = bval b))))) := by kernel_rfl
theorem zipL_nf (a b : List Int) : fnwp B1 6 48 zipSp (a, b, 58) = (∃ (I : List Int × Int → Prop), ∃ (μ : List Int × Int → Nat), I ([], (0 : Int)) ∧ ∀ (x : List Int × Int), I x →
  (decide (x.snd < (↑a.length : Int)) = true → ((0 : Int) ≤ x.snd ∧ x.snd < (↑a.length : Int)) ∧ ((0 : Int) ≤ x.snd ∧ x.snd < (↑b.length : Int)) ∧ True ∧ roomP B1 (3 : Nat)
  (x.fst.length + [min (a.getD x.snd.toNat (0 : Int)) (b.getD x.snd.toNat (0 : Int))].length) ∧ isI64 (x.snd + (1 : Int)) ∧ I (x.fst ++ [min (a.getD x.snd.toNat (0 : Int)) (b.getD
  x.snd.toNat (0 : Int))], x.snd + (1 : Int)) ∧ μ (x.fst ++ [min (a.getD x.snd.toNat (0 : Int)) (b.getD x.snd.toNat (0 : Int))], x.snd + (1 : Int)) < μ x) ∧ (decide (x.snd <
  (↑a.length : Int)) = false → x.fst = zipS a b (58 : Nat))) := by kernel_rfl
theorem zipG_nf (a b : List Int) : fnwp B1 6 48 zipSp (a, b, 57) = (∃ (I : List Int × Int → Prop), ∃ (μ : List Int × Int → Nat), I ([], (0 : Int)) ∧ ∀ (x : List Int × Int), I x →
  (decide (x.snd < (↑a.length : Int)) = true → ((0 : Int) ≤ x.snd ∧ x.snd < (↑a.length : Int)) ∧ ((0 : Int) ≤ x.snd ∧ x.snd < (↑b.length : Int)) ∧ True ∧ roomP B1 (3 : Nat)
  (x.fst.length + [max (a.getD x.snd.toNat (0 : Int)) (b.getD x.snd.toNat (0 : Int))].length) ∧ isI64 (x.snd + (1 : Int)) ∧ I (x.fst ++ [max (a.getD x.snd.toNat (0 : Int)) (b.getD
  x.snd.toNat (0 : Int))], x.snd + (1 : Int)) ∧ μ (x.fst ++ [max (a.getD x.snd.toNat (0 : Int)) (b.getD x.snd.toNat (0 : Int))], x.snd + (1 : Int)) < μ x) ∧ (decide (x.snd <
  (↑a.length : Int)) = false → x.fst = zipS a b (57 : Nat))) := by kernel_rfl
theorem zipW_nf (a b : List Int) : fnwp B1 6 48 zipSp (a, b, 49) = (∃ (I : List Int × Int → Prop), ∃ (μ : List Int × Int → Nat), I ([], (0 : Int)) ∧ ∀ (x : List Int × Int), I x →
  (decide (x.snd < (↑a.length : Int)) = true → ((0 : Int) ≤ x.snd ∧ x.snd < (↑a.length : Int)) ∧ ((0 : Int) ≤ x.snd ∧ x.snd < (↑b.length : Int)) ∧ isI64 (a.getD x.snd.toNat (0 :
  Int) - b.getD x.snd.toNat (0 : Int)) ∧ roomP B1 (3 : Nat) (x.fst.length + [a.getD x.snd.toNat (0 : Int) - b.getD x.snd.toNat (0 : Int)].length) ∧ isI64 (x.snd + (1 : Int)) ∧ I
  (x.fst ++ [a.getD x.snd.toNat (0 : Int) - b.getD x.snd.toNat (0 : Int)], x.snd + (1 : Int)) ∧ μ (x.fst ++ [a.getD x.snd.toNat (0 : Int) - b.getD x.snd.toNat (0 : Int)], x.snd +
  (1 : Int)) < μ x) ∧ (decide (x.snd < (↑a.length : Int)) = false → x.fst = zipS a b (49 : Nat))) := by kernel_rfl
end Go.Proofs.Ytdnofflnfchcbaa
