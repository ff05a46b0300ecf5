import Derived.Test.YtdnofflnfchcbaaXk
namespace Go.Proofs.Ytdnofflnfchcbaa
open Go.AM Go.PL
set_option linter.unusedVariables false
theorem law4_nf (m : Int) (b : Box) (v : List Int) : fnwp BLW 6 5 (lawSp [I, BX, L]) (m, b, v) = (True ∧ ((!fewB b) = true → True ∧ true = true) ∧ ((!fewB b) = false → True ∧
  ((!bval b) = true → True ∧ true = true) ∧ ((!bval b) = false → True ∧ ((!bvec v) = true → True ∧ true = true) ∧ ((!bvec v) = false → ((!decide ((↑v.length : Int) = (↑b.fst.length
  : Int))) = true → True ∧ true = true) ∧ ((!decide ((↑v.length : Int) = (↑b.fst.length : Int))) = false → True ∧ ((!isM m) = true → True ∧ true = true) ∧ ((!isM m) = false → (bval
  b = true ∧ v.length = b.fst.length) ∧ (bval b = true ∧ bvec v = true ∧ v.length = b.fst.length) ∧ True ∧ True ∧ True ∧ true = true ∧ decide ((nearS m b v).snd = (0 : Int)) = true
  ∧ decide ((farS m b v).snd = (0 : Int)) = true ∧ True ∧ bhas b (nearestS b v) = true ∧ True ∧ bhas b (farthestS b v) = true ∧ (isM m = true ∧ sm v ∧ sm (nearestS b v) ∧ v.length
  ≤ (nearestS b v).length) ∧ decide (sumK m v.length (keyF v (nearestS b v)) = (nearS m b v).fst) = true ∧ (isM m = true ∧ sm v ∧ sm (farthestS b v) ∧ v.length ≤ (farthestS b
  v).length) ∧ decide (sumK m v.length (keyF v (farthestS b v)) = (farS m b v).fst) = true)))))) := by kernel_rfl
end Go.Proofs.Ytdnofflnfchcbaa
