import Derived.Test.YtjppchomonpfgaaDe
namespace Go.Proofs.Ytjppchomonpfgaa
open Go.AM Go.PL
set_option linter.unusedVariables false
theorem law5_nf (b : Book) (m : Int) (q c : List Int) : fnwp EL 6 6 (lawSp [BK, I, L, L]) (b, m, q, c) = (True ∧ ((!(fewBk b && rightB b m q q)) = true → True ∧ true = true) ∧
  ((!(fewBk b && rightB b m q q)) = false → (decide ((20 : Int) < (↑c.length : Int)) = true → True ∧ true = true) ∧ (decide ((20 : Int) < (↑c.length : Int)) = false → (bookB b =
  true ∧ c.length ≤ (1000 : Nat)) ∧ ((!decide ((decodeS b c).snd = (0 : Int))) = true → True ∧ true = true ∧ decide ((↑(decodeS b c).fst.length : Int) = (0 : Int)) = true) ∧
  ((!decide ((decodeS b c).snd = (0 : Int))) = false → True ∧ true = true ∧ decide ((↑(decodeS b c).fst.length : Int) = b.fst) = true ∧ rightB b m q q = true ∧ sumP m (tableS b m
  q) c ∧ ((1 : Int) ≤ m ∧ m ≤ (3 : Int) ∧ small (64 : Nat) (4000 : Int) q ∧ small (64 : Nat) (4000 : Int) (decodeS b c).fst ∧ q.length = (decodeS b c).fst.length) ∧ decide (sumS m
  (tableS b m q) c = keyS m q (decodeS b c).fst) = true)))) := by kernel_rfl
end Go.Proofs.Ytjppchomonpfgaa
