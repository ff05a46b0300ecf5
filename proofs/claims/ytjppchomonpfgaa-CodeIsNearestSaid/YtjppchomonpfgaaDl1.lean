import Derived.Test.YtjppchomonpfgaaDe
namespace Go.Proofs.Ytjppchomonpfgaa
open Go.AM Go.PL
set_option linter.unusedVariables false
theorem law1_nf (b : Book) (m : Int) (v c : List Int) : fnwp EL 6 3 (lawSp [BK, I, L, L]) (b, m, v, c) = (True ∧ ((!fewBk b) = true → True ∧ true = true) ∧ ((!fewBk b) = false →
  (decide ((20 : Int) < (↑c.length : Int)) = true → True ∧ true = true) ∧ (decide ((20 : Int) < (↑c.length : Int)) = false → True ∧ True ∧ ((!decide (checkS b = checkS b)) = true →
  false = true) ∧ ((!decide (checkS b = checkS b)) = false → True ∧ ((!(fewBk b && rightB b m v v)) = true → True ∧ true = true) ∧ ((!(fewBk b && rightB b m v v)) = false → (bookB
  b = true ∧ c.length ≤ (1000 : Nat)) ∧ (bookB b = true ∧ c.length ≤ (1000 : Nat)) ∧ True ∧ true = true ∧ rightB b m v v = true ∧ rightB b m v v = true ∧ True ∧ decide (encodeS b m
  v = encodeS b m v) = true ∧ decide ((decodeS b c).snd = (decodeS b c).snd) = true ∧ True ∧ decide ((decodeS b c).fst = (decodeS b c).fst) = true ∧ rightB b m v v = true ∧ rightB
  b m v v = true ∧ decide (residS b m v = residS b m v) = true))))) := by kernel_rfl
end Go.Proofs.Ytjppchomonpfgaa
