import Derived.Test.YtdnofflnfchcbaaXk
namespace Go.Proofs.Ytdnofflnfchcbaa
open Go.AM Go.PL
set_option linter.unusedVariables false
theorem law3_nf (m : Int) (a b : Box) (v p q : List Int) : fnwp BLW 6 4 (lawSp [I, BX, BX, L, PK, PK]) (m, a, b, v, p, q) = (True ∧ ((!fewB a) = true → True ∧ true = true) ∧
  ((!fewB a) = false → True ∧ ((!fewB b) = true → True ∧ true = true) ∧ ((!fewB b) = false → True ∧ ((!bval a) = true → True ∧ true = true) ∧ ((!bval a) = false → True ∧ ((!bvec v)
  = true → True ∧ true = true) ∧ ((!bvec v) = false → ((!decide ((↑v.length : Int) = (↑a.fst.length : Int))) = true → True ∧ true = true) ∧ ((!decide ((↑v.length : Int) =
  (↑a.fst.length : Int))) = false → True ∧ ((!isM m) = true → True ∧ true = true) ∧ ((!isM m) = false → bval a = true ∧ True ∧ True ∧ (isM m = true ∧ sm v ∧ sm (innerS a p) ∧
  v.length ≤ (innerS a p).length) ∧ (!decide ((nearS m a v).snd = (0 : Int))) = false ∧ (!decide ((farS m a v).snd = (0 : Int))) = false ∧ True ∧ (!bhas a (innerS a p)) = false ∧
  decide (sumK m v.length (keyF v (innerS a p)) < (nearS m a v).fst) = false ∧ decide ((farS m a v).fst < sumK m v.length (keyF v (innerS a p))) = false ∧ True ∧ (decide ((nearS m
  a v).fst = (0 : Int)) != bhas a v) = false ∧ decide ((134217728 : Int) < (farS m a v).fst) = false ∧ True ∧ ((!bval b) = true → True ∧ true = true) ∧ ((!bval b) = false →
  ((!decide ((↑b.fst.length : Int) = (↑a.fst.length : Int))) = true → True ∧ true = true) ∧ ((!decide ((↑b.fst.length : Int) = (↑a.fst.length : Int))) = false → True ∧ True ∧ True
  ∧ true = true ∧ decide ((apartS m a b).snd = (0 : Int)) = true ∧ decide ((meetS a b).snd.snd = (0 : Int)) = true ∧ bval b = true ∧ (isM m = true ∧ sm (innerS a p) ∧ sm (innerS b
  q) ∧ (innerS a p).length ≤ (innerS b q).length) ∧ decide ((apartS m a b).fst ≤ sumK m (innerS a p).length (keyF (innerS a p) (innerS b q))) = true ∧ (decide ((apartS m a b).fst =
  (0 : Int)) == (meetS a b).snd.fst) = true))))))))) := by kernel_rfl
end Go.Proofs.Ytdnofflnfchcbaa
