import Derived.Test.YtjppchomonpfgaaDe
namespace Go.Proofs.Ytjppchomonpfgaa
open Go.AM Go.PL
set_option linter.unusedVariables false
theorem law6_nf (b : Book) (m : Int) (v c : List Int) : fnwp EL 6 7 (lawSp [BK, I, L, L]) (b, m, v, c) = (True ∧ ((!(fewBk b && rightB b m v v)) = true → True ∧ true = true) ∧
  ((!(fewBk b && rightB b m v v)) = false → (decide ((20 : Int) < (↑c.length : Int)) = true → True ∧ true = true) ∧ (decide ((20 : Int) < (↑c.length : Int)) = false → rightB b m v
  v = true ∧ (bookB b = true ∧ (encodeS b m v).length ≤ (1000 : Nat)) ∧ (!decide ((decodeS b (encodeS b m v)).snd = (0 : Int))) = false ∧ (!decide ((↑(decodeS b (encodeS b m
  v)).fst.length : Int) = (↑v.length : Int))) = false ∧ ((1 : Int) ≤ m ∧ m ≤ (3 : Int) ∧ small (64 : Nat) (4000 : Int) v ∧ small (64 : Nat) (4000 : Int) (decodeS b (encodeS b m
  v)).fst ∧ v.length = (decodeS b (encodeS b m v)).fst.length) ∧ rightB b m v v = true ∧ (!decide (keyS m v (decodeS b (encodeS b m v)).fst = residS b m v)) = false ∧ (bookB b =
  true ∧ c.length ≤ (1000 : Nat)) ∧ ((!decide ((decodeS b c).snd = (0 : Int))) = true → True ∧ true = true) ∧ ((!decide ((decodeS b c).snd = (0 : Int))) = false → True ∧ true =
  true ∧ decide ((↑(decodeS b c).fst.length : Int) = (↑v.length : Int)) = true ∧ ((1 : Int) ≤ m ∧ m ≤ (3 : Int) ∧ small (64 : Nat) (4000 : Int) v ∧ small (64 : Nat) (4000 : Int)
  (decodeS b c).fst ∧ v.length = (decodeS b c).fst.length) ∧ rightB b m v v = true ∧ decide (residS b m v ≤ keyS m v (decodeS b c).fst) = true ∧ rightB b m (decodeS b c).fst
  (decodeS b c).fst = true ∧ decide (residS b m (decodeS b c).fst = (0 : Int)) = true)))) := by kernel_rfl
end Go.Proofs.Ytjppchomonpfgaa
