import Derived.Test.YtdhfjgooamoodaaGk
namespace Go.Proofs.Ytdhfjgooamoodaa
open Go.AM Go.PL
set_option linter.unusedVariables false
def tG6 : List (FuncId × FSpec) := (10, sanSp) :: (31, someSp) :: tG5
noncomputable def GL : Ctx := mkctx bs tG6 [] (hint0 loopsP)
theorem law1_nf (m : Int) (p l : List (List Int)) (v : List Int) (w : Int) : fnwp GL 6 3 (lawSp [I, LL, LL, L, I]) (m, p, l, v, w) = (True ∧ ((!few40 p (10 : Int)) = true → True ∧
  true = true) ∧ ((!few40 p (10 : Int)) = false → True ∧ ((!few40 l (30 : Int)) = true → True ∧ true = true) ∧ ((!few40 l (30 : Int)) = false → (decide ((40 : Int) < (↑v.length :
  Int)) = true → True ∧ true = true) ∧ (decide ((40 : Int) < (↑v.length : Int)) = false → True ∧ True ∧ True ∧ True ∧ True ∧ True ∧ True ∧ True ∧ True ∧ (true = true → True ∧
  (decide ((chooseR m l w).fst = (chooseR m l w).fst) = true → (decide ((chooseR m l w).snd = (chooseR m l w).snd) = true → (decide ((nearestS m p v).fst = (nearestS m p v).fst) =
  true → (decide ((nearestS m p v).snd.fst = (nearestS m p v).snd.fst) = true → (decide ((nearestS m p v).snd.snd = (nearestS m p v).snd.snd) = true → (decide ((coverR m p l).fst =
  (coverR m p l).fst) = true → (decide ((coverR m p l).snd = (coverR m p l).snd) = true → True ∧ (decide ((tableR m p l).fst = (tableR m p l).fst) = true → decide ((tableR m p
  l).snd = (tableR m p l).snd) = true) ∧ (decide ((tableR m p l).fst = (tableR m p l).fst) = false → false = true)) ∧ (decide ((coverR m p l).snd = (coverR m p l).snd) = false →
  false = true)) ∧ (decide ((coverR m p l).fst = (coverR m p l).fst) = false → false = true)) ∧ (decide ((nearestS m p v).snd.snd = (nearestS m p v).snd.snd) = false → false =
  true)) ∧ (decide ((nearestS m p v).snd.fst = (nearestS m p v).snd.fst) = false → false = true)) ∧ (decide ((nearestS m p v).fst = (nearestS m p v).fst) = false → false = true)) ∧
  (decide ((chooseR m l w).snd = (chooseR m l w).snd) = false → false = true)) ∧ (decide ((chooseR m l w).fst = (chooseR m l w).fst) = false → false = true)) ∧ (true = false →
  false = true))))) := by kernel_rfl
theorem law2_nf (m : Int) (p l : List (List Int)) (v : List Int) : fnwp GL 6 4 (lawSp [I, LL, LL, L]) (m, p, l, v) = (True ∧ ((!few40 l (30 : Int)) = true → True ∧ true = true) ∧
  ((!few40 l (30 : Int)) = false → True ∧ ((!bothB m p l) = true → True ∧ true = true) ∧ ((!bothB m p l) = false → ((0 : Int) ≤ (0 : Int) ∧ (0 : Int) < (↑p.length : Int)) ∧ True ∧
  ((!alikeB (p.getD (0 : Nat) []) v) = true → True ∧ true = true) ∧ ((!alikeB (p.getD (0 : Nat) []) v) = false → True ∧ roomP GL (23 : Nat) l.length ∧ roomP GL (23 : Nat) (l.length
  + [v].length) ∧ True ∧ ((!decide ((shellsR m p l).snd = (0 : Int))) = true → false = true) ∧ ((!decide ((shellsR m p l).snd = (0 : Int))) = false → ((!decide ((tableR m p (l ++
  [v])).snd = (0 : Int))) = true → false = true) ∧ ((!decide ((tableR m p (l ++ [v])).snd = (0 : Int))) = false → isI64 ((↑l.length : Int) + (1 : Int)) ∧ ((!decide ((↑(tableR m p
  (l ++ [v])).fst.length : Int) = (↑l.length : Int) + (1 : Int))) = true → false = true) ∧ ((!decide ((↑(tableR m p (l ++ [v])).fst.length : Int) = (↑l.length : Int) + (1 : Int)))
  = false → True ∧ ((!validB (shellsR m p l).fst) = true → false = true) ∧ ((!validB (shellsR m p l).fst) = false → ((!decide ((↑(shellsR m p l).fst.length : Int) = (↑p.length :
  Int))) = true → false = true) ∧ ((!decide ((↑(shellsR m p l).fst.length : Int) = (↑p.length : Int))) = false → ((0 : Int) ≤ (↑l.length : Int) ∧ (↑l.length : Int) < (↑(tableR m p
  (l ++ [v])).fst.length : Int)) ∧ True ∧ True ∧ ((!decide ((loR m (shellsR m p l).fst ((tableR m p (l ++ [v])).fst.getD (↑l.length : Int).toNat [])).snd = (0 : Int))) = true →
  false = true) ∧ ((!decide ((loR m (shellsR m p l).fst ((tableR m p (l ++ [v])).fst.getD (↑l.length : Int).toNat [])).snd = (0 : Int))) = false → ((!decide ((hiR m (shellsR m p
  l).fst ((tableR m p (l ++ [v])).fst.getD (↑l.length : Int).toNat [])).snd = (0 : Int))) = true → false = true) ∧ ((!decide ((hiR m (shellsR m p l).fst ((tableR m p (l ++
  [v])).fst.getD (↑l.length : Int).toNat [])).snd = (0 : Int))) = false → ∃ (I : Int → Prop), ∃ (μ : Int → Nat), I (0 : Int) ∧ ∀ (x : Int), I x → (decide (x < (↑l.length : Int)) =
  true → ((0 : Int) ≤ x ∧ x < (↑l.length : Int)) ∧ ((1 : Int) ≤ m ∧ m ≤ (3 : Int) ∧ small (64 : Nat) (4000 : Int) v ∧ small (64 : Nat) (4000 : Int) (l.getD x.toNat []) ∧ v.length =
  (l.getD x.toNat []).length) ∧ ((0 : Int) ≤ x ∧ x < (↑(tableR m p (l ++ [v])).fst.length : Int)) ∧ True ∧ ((!inB (shellsR m p l).fst ((tableR m p (l ++ [v])).fst.getD x.toNat []))
  = true → false = true) ∧ ((!inB (shellsR m p l).fst ((tableR m p (l ++ [v])).fst.getD x.toNat [])) = false → (decide (keyS m v (l.getD x.toNat []) < (loR m (shellsR m p l).fst
  ((tableR m p (l ++ [v])).fst.getD (↑l.length : Int).toNat [])).fst) = true → false = true) ∧ (decide (keyS m v (l.getD x.toNat []) < (loR m (shellsR m p l).fst ((tableR m p (l ++
  [v])).fst.getD (↑l.length : Int).toNat [])).fst) = false → (decide ((hiR m (shellsR m p l).fst ((tableR m p (l ++ [v])).fst.getD (↑l.length : Int).toNat [])).fst < keyS m v
  (l.getD x.toNat [])) = true → false = true) ∧ (decide ((hiR m (shellsR m p l).fst ((tableR m p (l ++ [v])).fst.getD (↑l.length : Int).toNat [])).fst < keyS m v (l.getD x.toNat
  [])) = false → isI64 (x + (1 : Int)) ∧ I (x + (1 : Int)) ∧ μ (x + (1 : Int)) < μ x)))) ∧ (decide (x < (↑l.length : Int)) = false → ∃ (I : Int → Prop), ∃ (μ : Int → Nat), I (0 :
  Int) ∧ ∀ (x : Int), I x → (decide (x < (↑(shellsR m p l).fst.length : Int)) = true → ∃ (I_1 : Bool × Bool × Int → Prop), ∃ (μ_1 : Bool × Bool × Int → Nat), I_1 (false, false, (0
  : Int)) ∧ ∀ (x_1 : Bool × Bool × Int), I_1 x_1 → (decide (x_1.snd.snd < (↑l.length : Int)) = true → (x_1.fst = true → (x_1.snd.fst = true → isI64 (x_1.snd.snd + (1 : Int)) ∧ I_1
  (true, true, x_1.snd.snd + (1 : Int)) ∧ μ_1 (true, true, x_1.snd.snd + (1 : Int)) < μ_1 x_1) ∧ (x_1.snd.fst = false → ((0 : Int) ≤ x_1.snd.snd ∧ x_1.snd.snd < (↑(tableR m p (l ++
  [v])).fst.length : Int)) ∧ ((0 : Int) ≤ x ∧ x < (↑((tableR m p (l ++ [v])).fst.getD x_1.snd.snd.toNat []).length : Int)) ∧ ((0 : Int) ≤ x ∧ x < (↑(shellsR m p l).fst.length :
  Int)) ∧ isI64 (x_1.snd.snd + (1 : Int)) ∧ I_1 (true, decide (((tableR m p (l ++ [v])).fst.getD x_1.snd.snd.toNat []).getD x.toNat (0 : Int) = ((shellsR m p l).fst.getD x.toNat
  ((0 : Int), (0 : Int), ())).snd.fst), x_1.snd.snd + (1 : Int)) ∧ μ_1 (true, decide (((tableR m p (l ++ [v])).fst.getD x_1.snd.snd.toNat []).getD x.toNat (0 : Int) = ((shellsR m p
  l).fst.getD x.toNat ((0 : Int), (0 : Int), ())).snd.fst), x_1.snd.snd + (1 : Int)) < μ_1 x_1)) ∧ (x_1.fst = false → ((0 : Int) ≤ x_1.snd.snd ∧ x_1.snd.snd < (↑(tableR m p (l ++
  [v])).fst.length : Int)) ∧ ((0 : Int) ≤ x ∧ x < (↑((tableR m p (l ++ [v])).fst.getD x_1.snd.snd.toNat []).length : Int)) ∧ ((0 : Int) ≤ x ∧ x < (↑(shellsR m p l).fst.length :
  Int)) ∧ (x_1.snd.fst = true → isI64 (x_1.snd.snd + (1 : Int)) ∧ I_1 (decide (((tableR m p (l ++ [v])).fst.getD x_1.snd.snd.toNat []).getD x.toNat (0 : Int) = ((shellsR m p
  l).fst.getD x.toNat ((0 : Int), (0 : Int), ())).fst), true, x_1.snd.snd + (1 : Int)) ∧ μ_1 (decide (((tableR m p (l ++ [v])).fst.getD x_1.snd.snd.toNat []).getD x.toNat (0 : Int)
  = ((shellsR m p l).fst.getD x.toNat ((0 : Int), (0 : Int), ())).fst), true, x_1.snd.snd + (1 : Int)) < μ_1 x_1) ∧ (x_1.snd.fst = false → ((0 : Int) ≤ x_1.snd.snd ∧ x_1.snd.snd <
  (↑(tableR m p (l ++ [v])).fst.length : Int)) ∧ ((0 : Int) ≤ x ∧ x < (↑((tableR m p (l ++ [v])).fst.getD x_1.snd.snd.toNat []).length : Int)) ∧ ((0 : Int) ≤ x ∧ x < (↑(shellsR m p
  l).fst.length : Int)) ∧ isI64 (x_1.snd.snd + (1 : Int)) ∧ I_1 (decide (((tableR m p (l ++ [v])).fst.getD x_1.snd.snd.toNat []).getD x.toNat (0 : Int) = ((shellsR m p l).fst.getD
  x.toNat ((0 : Int), (0 : Int), ())).fst), decide (((tableR m p (l ++ [v])).fst.getD x_1.snd.snd.toNat []).getD x.toNat (0 : Int) = ((shellsR m p l).fst.getD x.toNat ((0 : Int),
  (0 : Int), ())).snd.fst), x_1.snd.snd + (1 : Int)) ∧ μ_1 (decide (((tableR m p (l ++ [v])).fst.getD x_1.snd.snd.toNat []).getD x.toNat (0 : Int) = ((shellsR m p l).fst.getD
  x.toNat ((0 : Int), (0 : Int), ())).fst), decide (((tableR m p (l ++ [v])).fst.getD x_1.snd.snd.toNat []).getD x.toNat (0 : Int) = ((shellsR m p l).fst.getD x.toNat ((0 : Int),
  (0 : Int), ())).snd.fst), x_1.snd.snd + (1 : Int)) < μ_1 x_1))) ∧ (decide (x_1.snd.snd < (↑l.length : Int)) = false → ((!x_1.fst) = true → false = true) ∧ ((!x_1.fst) = false →
  ((!x_1.snd.fst) = true → false = true) ∧ ((!x_1.snd.fst) = false → isI64 (x + (1 : Int)) ∧ I (x + (1 : Int)) ∧ μ (x + (1 : Int)) < μ x)))) ∧ (decide (x < (↑(shellsR m p
  l).fst.length : Int)) = false → True ∧ true = true))))))))))))) := by kernel_rfl
end Go.Proofs.Ytdhfjgooamoodaa
