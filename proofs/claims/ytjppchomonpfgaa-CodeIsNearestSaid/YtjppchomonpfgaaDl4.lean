import Derived.Test.YtjppchomonpfgaaDe
namespace Go.Proofs.Ytjppchomonpfgaa
open Go.AM Go.PL
set_option linter.unusedVariables false
theorem law4_nf (b : Book) (m : Int) (v q : List Int) : fnwp EL 6 5 (lawSp [BK, I, L, L]) (b, m, v, q) = (True ∧ ((!(fewBk b && rightB b m v q)) = true → True ∧ true = true) ∧
  ((!(fewBk b && rightB b m v q)) = false → rightB b m q q = true ∧ rightB b m v v = true ∧ sumP m (tableS b m q) (encodeS b m v) ∧ rightB b m v v = true ∧ (keyP (sumS m (tableS b
  m q) (encodeS b m v)) ∧ keyP (residS b m v)) ∧ ((1 : Int) ≤ m ∧ m ≤ (3 : Int) ∧ small (64 : Nat) (4000 : Int) q ∧ small (64 : Nat) (4000 : Int) v ∧ q.length = v.length) ∧ True ∧
  true = true ∧ decide (lowS m (sumS m (tableS b m q) (encodeS b m v)) (residS b m v) ≤ keyS m q v) = true ∧ decide (keyS m q v ≤ highS m (sumS m (tableS b m q) (encodeS b m v))
  (residS b m v)) = true)) := by kernel_rfl
end Go.Proofs.Ytjppchomonpfgaa
