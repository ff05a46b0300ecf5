import Derived.Test.YtdhfjgooamoodaaGl
namespace Go.Proofs.Ytdhfjgooamoodaa
open Go.AM Go.PL
set_option linter.unusedVariables false
theorem law5_nf (m : Int) (p l : List (List Int)) (a b : List Shell) (ks : List Int) : fnwp GL 6 7 (lawSp [I, LL, LL, SL, SL, L]) (m, p, l, a, b, ks) = (True ∧ ((!few40 p (10 :
  Int)) = true → True ∧ true = true) ∧ ((!few40 p (10 : Int)) = false → True ∧ ((!few40 l (30 : Int)) = true → True ∧ true = true) ∧ ((!few40 l (30 : Int)) = false → (decide ((10 :
  Int) < (↑a.length : Int)) = true → True ∧ true = true) ∧ (decide ((10 : Int) < (↑a.length : Int)) = false → (decide ((10 : Int) < (↑b.length : Int)) = true → True ∧ true = true)
  ∧ (decide ((10 : Int) < (↑b.length : Int)) = false → (decide ((12 : Int) < (↑ks.length : Int)) = true → True ∧ true = true) ∧ (decide ((12 : Int) < (↑ks.length : Int)) = false →
  True ∧ True ∧ True ∧ True ∧ True ∧ True ∧ True ∧ True ∧ True ∧ (decide ((shellsR m p l).fst = (shellsR m p l).fst) = true → (decide ((shellsR m p l).snd = (shellsR m p l).snd) =
  true → True ∧ (decide ((joinR a b).fst = (joinR a b).fst) = true → (decide ((joinR a b).snd = (joinR a b).snd) = true → (decide ((loR m a ks).fst = (loR m a ks).fst) = true →
  (decide ((loR m a ks).snd = (loR m a ks).snd) = true → (decide ((hiR m a ks).fst = (hiR m a ks).fst) = true → True ∧ (true = true → (decide ((hiR m a ks).snd = (hiR m a ks).snd)
  = true → True ∧ True ∧ ((validB a == validB a) = true → True ∧ True ∧ (inB a ks == inB a ks) = true) ∧ ((validB a == validB a) = false → false = true)) ∧ (decide ((hiR m a
  ks).snd = (hiR m a ks).snd) = false → false = true)) ∧ (true = false → false = true)) ∧ (decide ((hiR m a ks).fst = (hiR m a ks).fst) = false → True ∧ (true = true → false =
  true) ∧ (true = false → false = true))) ∧ (decide ((loR m a ks).snd = (loR m a ks).snd) = false → True ∧ (true = true → false = true) ∧ (true = false → false = true))) ∧ (decide
  ((loR m a ks).fst = (loR m a ks).fst) = false → True ∧ (true = true → false = true) ∧ (true = false → false = true))) ∧ (decide ((joinR a b).snd = (joinR a b).snd) = false → True
  ∧ (true = true → false = true) ∧ (true = false → false = true))) ∧ (decide ((joinR a b).fst = (joinR a b).fst) = false → True ∧ (true = true → false = true) ∧ (true = false →
  false = true))) ∧ (decide ((shellsR m p l).snd = (shellsR m p l).snd) = false → True ∧ (true = true → false = true) ∧ (true = false → false = true))) ∧ (decide ((shellsR m p
  l).fst = (shellsR m p l).fst) = false → True ∧ (true = true → false = true) ∧ (true = false → false = true)))))))) := by kernel_rfl
end Go.Proofs.Ytdhfjgooamoodaa
