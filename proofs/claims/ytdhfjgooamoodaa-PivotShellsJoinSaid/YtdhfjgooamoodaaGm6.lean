import Derived.Test.YtdhfjgooamoodaaGl
namespace Go.Proofs.Ytdhfjgooamoodaa
open Go.AM Go.PL
set_option linter.unusedVariables false
theorem law6_nf (m : Int) (a b : List Shell) (ks os : List Int) : fnwp GL 6 8 (lawSp [I, SL, SL, L, L]) (m, a, b, ks, os) = (True ∧ ((!(decide ((1 : Int) ≤ m) && decide (m ≤ (3 :
  Int)))) = true → True ∧ true = true) ∧ ((!(decide ((1 : Int) ≤ m) && decide (m ≤ (3 : Int)))) = false → True ∧ ((!validB a) = true → True ∧ true = true) ∧ ((!validB a) = false →
  True ∧ ((!validB b) = true → True ∧ true = true) ∧ ((!validB b) = false → ((!decide ((↑a.length : Int) = (↑b.length : Int))) = true → True ∧ true = true) ∧ ((!decide ((↑a.length
  : Int) = (↑b.length : Int))) = false → (decide ((12 : Int) < (↑ks.length : Int)) = true → True ∧ true = true) ∧ (decide ((12 : Int) < (↑ks.length : Int)) = false → (decide ((12 :
  Int) < (↑os.length : Int)) = true → True ∧ true = true) ∧ (decide ((12 : Int) < (↑os.length : Int)) = false → True ∧ True ∧ ((!decide ((joinR a b).snd = (0 : Int))) = true →
  false = true) ∧ ((!decide ((joinR a b).snd = (0 : Int))) = false → ((!decide ((joinR b a).snd = (0 : Int))) = true → false = true) ∧ ((!decide ((joinR b a).snd = (0 : Int))) =
  false → True ∧ ((!decide ((joinR a b).fst = (joinR b a).fst)) = true → false = true) ∧ ((!decide ((joinR a b).fst = (joinR b a).fst)) = false → True ∧ ((!validB (joinR a b).fst)
  = true → false = true) ∧ ((!validB (joinR a b).fst) = false → True ∧ (inB a os = true → True ∧ ((!inB (joinR a b).fst os) = true → false = true) ∧ ((!inB (joinR a b).fst os) =
  false → True ∧ ((!decide ((loR m (joinR a b).fst ks).snd = (0 : Int))) = true → True ∧ true = true) ∧ ((!decide ((loR m (joinR a b).fst ks).snd = (0 : Int))) = false → True ∧
  True ∧ True ∧ True ∧ True ∧ (decide ((loR m a ks).snd = (0 : Int)) = true → (decide ((loR m b ks).snd = (0 : Int)) = true → (decide ((hiR m (joinR a b).fst ks).snd = (0 : Int)) =
  true → (decide ((hiR m a ks).snd = (0 : Int)) = true → True ∧ (true = true → (decide ((hiR m b ks).snd = (0 : Int)) = true → (decide ((loR m (joinR a b).fst ks).fst ≤ min (loR m
  a ks).fst (loR m b ks).fst) = true → decide (max (hiR m a ks).fst (hiR m b ks).fst ≤ (hiR m (joinR a b).fst ks).fst) = true) ∧ (decide ((loR m (joinR a b).fst ks).fst ≤ min (loR
  m a ks).fst (loR m b ks).fst) = false → false = true)) ∧ (decide ((hiR m b ks).snd = (0 : Int)) = false → false = true)) ∧ (true = false → false = true)) ∧ (decide ((hiR m a
  ks).snd = (0 : Int)) = false → True ∧ (true = true → false = true) ∧ (true = false → false = true))) ∧ (decide ((hiR m (joinR a b).fst ks).snd = (0 : Int)) = false → True ∧ (true
  = true → false = true) ∧ (true = false → false = true))) ∧ (decide ((loR m b ks).snd = (0 : Int)) = false → True ∧ (true = true → false = true) ∧ (true = false → false = true)))
  ∧ (decide ((loR m a ks).snd = (0 : Int)) = false → True ∧ (true = true → false = true) ∧ (true = false → false = true))))) ∧ (inB a os = false → True ∧ (inB b os = true → True ∧
  ((!inB (joinR a b).fst os) = true → false = true) ∧ ((!inB (joinR a b).fst os) = false → True ∧ ((!decide ((loR m (joinR a b).fst ks).snd = (0 : Int))) = true → True ∧ true =
  true) ∧ ((!decide ((loR m (joinR a b).fst ks).snd = (0 : Int))) = false → True ∧ True ∧ True ∧ True ∧ True ∧ (decide ((loR m a ks).snd = (0 : Int)) = true → (decide ((loR m b
  ks).snd = (0 : Int)) = true → (decide ((hiR m (joinR a b).fst ks).snd = (0 : Int)) = true → (decide ((hiR m a ks).snd = (0 : Int)) = true → True ∧ (true = true → (decide ((hiR m
  b ks).snd = (0 : Int)) = true → (decide ((loR m (joinR a b).fst ks).fst ≤ min (loR m a ks).fst (loR m b ks).fst) = true → decide (max (hiR m a ks).fst (hiR m b ks).fst ≤ (hiR m
  (joinR a b).fst ks).fst) = true) ∧ (decide ((loR m (joinR a b).fst ks).fst ≤ min (loR m a ks).fst (loR m b ks).fst) = false → false = true)) ∧ (decide ((hiR m b ks).snd = (0 :
  Int)) = false → false = true)) ∧ (true = false → false = true)) ∧ (decide ((hiR m a ks).snd = (0 : Int)) = false → True ∧ (true = true → false = true) ∧ (true = false → false =
  true))) ∧ (decide ((hiR m (joinR a b).fst ks).snd = (0 : Int)) = false → True ∧ (true = true → false = true) ∧ (true = false → false = true))) ∧ (decide ((loR m b ks).snd = (0 :
  Int)) = false → True ∧ (true = true → false = true) ∧ (true = false → false = true))) ∧ (decide ((loR m a ks).snd = (0 : Int)) = false → True ∧ (true = true → false = true) ∧
  (true = false → false = true))))) ∧ (inB b os = false → True ∧ ((!decide ((loR m (joinR a b).fst ks).snd = (0 : Int))) = true → True ∧ true = true) ∧ ((!decide ((loR m (joinR a
  b).fst ks).snd = (0 : Int))) = false → True ∧ True ∧ True ∧ True ∧ True ∧ (decide ((loR m a ks).snd = (0 : Int)) = true → (decide ((loR m b ks).snd = (0 : Int)) = true → (decide
  ((hiR m (joinR a b).fst ks).snd = (0 : Int)) = true → (decide ((hiR m a ks).snd = (0 : Int)) = true → True ∧ (true = true → (decide ((hiR m b ks).snd = (0 : Int)) = true →
  (decide ((loR m (joinR a b).fst ks).fst ≤ min (loR m a ks).fst (loR m b ks).fst) = true → decide (max (hiR m a ks).fst (hiR m b ks).fst ≤ (hiR m (joinR a b).fst ks).fst) = true)
  ∧ (decide ((loR m (joinR a b).fst ks).fst ≤ min (loR m a ks).fst (loR m b ks).fst) = false → false = true)) ∧ (decide ((hiR m b ks).snd = (0 : Int)) = false → false = true)) ∧
  (true = false → false = true)) ∧ (decide ((hiR m a ks).snd = (0 : Int)) = false → True ∧ (true = true → false = true) ∧ (true = false → false = true))) ∧ (decide ((hiR m (joinR a
  b).fst ks).snd = (0 : Int)) = false → True ∧ (true = true → false = true) ∧ (true = false → false = true))) ∧ (decide ((loR m b ks).snd = (0 : Int)) = false → True ∧ (true = true
  → false = true) ∧ (true = false → false = true))) ∧ (decide ((loR m a ks).snd = (0 : Int)) = false → True ∧ (true = true → false = true) ∧ (true = false → false =
  true)))))))))))))))) := by kernel_rfl
end Go.Proofs.Ytdhfjgooamoodaa
