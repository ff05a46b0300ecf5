import Derived.Test.YtdnofflnfchcbaaXk
namespace Go.Proofs.Ytdnofflnfchcbaa
open Go.AM Go.PL
set_option linter.unusedVariables false
theorem law2_nf (a b : Box) (v : List Int) (m x y : Int) : fnwp BLW 6 3 (lawSp [BX, BX, L, I, I, I]) (a, b, v, m, x, y) = (True ∧ ((!fewB a) = true → True ∧ true = true) ∧ ((!fewB
  a) = false → True ∧ ((!fewB b) = true → True ∧ true = true) ∧ ((!fewB b) = false → (decide ((40 : Int) < (↑v.length : Int)) = true → True ∧ true = true) ∧ (decide ((40 : Int) <
  (↑v.length : Int)) = false → True ∧ True ∧ True ∧ True ∧ True ∧ True ∧ True ∧ True ∧ True ∧ True ∧ decide ((nearS m a v).fst = (nearS m a v).fst) = true ∧ decide ((nearS m a
  v).snd = (nearS m a v).snd) = true ∧ decide ((farS m a v).fst = (farS m a v).fst) = true ∧ decide ((farS m a v).snd = (farS m a v).snd) = true ∧ decide ((apartS m a b).fst =
  (apartS m a b).fst) = true ∧ True ∧ decide (((cutS a x y).fst.fst, (cutS a x y).fst.snd.fst, ()) = ((cutS a x y).fst.fst, (cutS a x y).fst.snd.fst, ())) = true ∧ True ∧ decide
  (((cutS a x y).snd.fst.fst, (cutS a x y).snd.fst.snd.fst, ()) = ((cutS a x y).snd.fst.fst, (cutS a x y).snd.fst.snd.fst, ())) = true ∧ decide ((cutS a x y).snd.snd = (cutS a x
  y).snd.snd) = true ∧ decide ((splitS a).fst = (splitS a).fst) = true ∧ decide ((splitS a).snd.fst = (splitS a).snd.fst) = true ∧ True ∧ true = true ∧ decide ((apartS m a b).snd =
  (apartS m a b).snd) = true ∧ decide ((splitS a).snd.snd = (splitS a).snd.snd) = true ∧ True ∧ True ∧ (bhas a v == bhas a v) = true)))) := by kernel_rfl
end Go.Proofs.Ytdnofflnfchcbaa
