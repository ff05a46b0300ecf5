import Derived.Test.YtdnofflnfchcbaaXk
namespace Go.Proofs.Ytdnofflnfchcbaa
open Go.AM Go.PL
set_option linter.unusedVariables false
theorem law1_nf (l : List (List Int)) (a b : Box) : fnwp BLW 6 7 (lawSp [LL, BX, BX]) (l, a, b) = (True ∧ ((!shortB l) = true → True ∧ true = true) ∧ ((!shortB l) = false → True ∧
  ((!fewB a) = true → True ∧ true = true) ∧ ((!fewB a) = false → True ∧ ((!fewB b) = true → True ∧ true = true) ∧ ((!fewB b) = false → True ∧ True ∧ True ∧ True ∧ True ∧ True ∧
  True ∧ decide (((ofS l).fst.fst, (ofS l).fst.snd.fst, ()) = ((ofS l).fst.fst, (ofS l).fst.snd.fst, ())) = true ∧ decide ((ofS l).snd = (ofS l).snd) = true ∧ True ∧ decide
  (((joinS a b).fst.fst, (joinS a b).fst.snd.fst, ()) = ((joinS a b).fst.fst, (joinS a b).fst.snd.fst, ())) = true ∧ decide ((joinS a b).snd = (joinS a b).snd) = true ∧ True ∧
  decide (((meetS a b).fst.fst, (meetS a b).fst.snd.fst, ()) = ((meetS a b).fst.fst, (meetS a b).fst.snd.fst, ())) = true ∧ ((meetS a b).snd.fst == (meetS a b).snd.fst) = true ∧
  True ∧ true = true ∧ decide ((meetS a b).snd.snd = (meetS a b).snd.snd) = true ∧ True ∧ True ∧ (bval a == bval a) = true ∧ True ∧ True ∧ (binside a b == binside a b) = true))))
  := by kernel_rfl
end Go.Proofs.Ytdnofflnfchcbaa
