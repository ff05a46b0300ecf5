import Derived.Test.YtjppchomonpfgaaDe
namespace Go.Proofs.Ytjppchomonpfgaa
open Go.AM Go.PL
set_option linter.unusedVariables false
theorem law2_nf (b : Book) (m : Int) (v q : List Int) (key r : Int) : fnwp EL 6 4 (lawSp [BK, I, L, L, I, I]) (b, m, v, q, key, r) = (True ∧ ((!(fewBk b && rightB b m v q)) = true
  → True ∧ true = true) ∧ ((!(fewBk b && rightB b m v q)) = false → (decide (key < (0 : Int)) = true → True ∧ true = true) ∧ (decide (key < (0 : Int)) = false → (decide ((134217728
  : Int) < key) = true → True ∧ true = true) ∧ (decide ((134217728 : Int) < key) = false → (decide (r < (0 : Int)) = true → True ∧ true = true) ∧ (decide (r < (0 : Int)) = false →
  (decide ((134217728 : Int) < r) = true → True ∧ true = true) ∧ (decide ((134217728 : Int) < r) = false → rightB b m q q = true ∧ rightB b m v v = true ∧ (keyP key ∧ keyP r) ∧
  (keyP key ∧ keyP r) ∧ True ∧ true = true ∧ rightB b m q q = true ∧ True ∧ decide (tableS b m q = tableS b m q) = true ∧ sumP m (tableS b m q) (encodeS b m v) ∧ sumP m (tableS b m
  q) (encodeS b m v) ∧ decide (sumS m (tableS b m q) (encodeS b m v) = sumS m (tableS b m q) (encodeS b m v)) = true ∧ decide (lowS m key r = lowS m key r) = true ∧ decide (highS m
  key r = highS m key r) = true)))))) := by kernel_rfl
end Go.Proofs.Ytjppchomonpfgaa
