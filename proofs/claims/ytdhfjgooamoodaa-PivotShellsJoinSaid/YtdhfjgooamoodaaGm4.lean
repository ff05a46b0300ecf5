import Derived.Test.YtdhfjgooamoodaaGl
namespace Go.Proofs.Ytdhfjgooamoodaa
open Go.AM Go.PL
set_option linter.unusedVariables false
def hintP4 (f : FuncId) : Hint := bif Nat.beq f 6 then ⟨fun _ => [], fun r => bif memN r [9, 17] then .yes else .split, fun t => bif memN t [147] then .no else .split, fun _ => 0⟩ else
  bif Nat.beq f 7 then ⟨fun _ => [], fun r => bif memN r [11, 12] then .yes else .split, fun _ => .split, fun _ => 0⟩ else
  bif Nat.beq f 8 then ⟨fun _ => [], fun r => bif memN r [5, 17, 18] then .yes else .split, fun t => bif memN t [87] then .no else .split, fun _ => 0⟩ else hint0 loopsP f
noncomputable def GL4 : Ctx := mkctx bs tG6 [] hintP4
theorem law4_nf (m : Int) (p l : List (List Int)) (v w : List Int) : fnwp GL4 6 6 (lawSp [I, LL, LL, L, L]) (m, p, l, v, w) = (True ∧ ((!few40 l (30 : Int)) = true → True ∧ true =
  true) ∧ ((!few40 l (30 : Int)) = false → True ∧ ((!bothB m p l) = true → True ∧ true = true) ∧ ((!bothB m p l) = false → (decide ((8 : Int) ≤ (↑p.length : Int)) = true → True ∧
  true = true) ∧ (decide ((8 : Int) ≤ (↑p.length : Int)) = false → ((0 : Int) ≤ (0 : Int) ∧ (0 : Int) < (↑p.length : Int)) ∧ True ∧ ((!alikeB (p.getD (0 : Nat) []) v) = true → True
  ∧ true = true) ∧ ((!alikeB (p.getD (0 : Nat) []) v) = false → ((0 : Int) ≤ (0 : Int) ∧ (0 : Int) < (↑p.length : Int)) ∧ True ∧ ((!alikeB (p.getD (0 : Nat) []) w) = true → True ∧
  true = true) ∧ ((!alikeB (p.getD (0 : Nat) []) w) = false → roomP GL4 (23 : Nat) p.length ∧ roomP GL4 (23 : Nat) (p.length + [w].length) ∧ True ∧ True ∧ True ∧ True ∧ True ∧
  (!decide ((coverR m p l).snd = (0 : Int))) = false ∧ (!decide ((coverR m (p ++ [w]) l).snd = (0 : Int))) = false ∧ (!decide ((shellsR m p l).snd = (0 : Int))) = false ∧ (!decide
  ((shellsR m (p ++ [w]) l).snd = (0 : Int))) = false ∧ (!decide ((tableR m (p ++ [w]) [v]).snd = (0 : Int))) = false ∧ (!decide ((↑(tableR m (p ++ [w]) [v]).fst.length : Int) = (1
  : Int))) = false ∧ ((0 : Int) ≤ (0 : Int) ∧ (0 : Int) < (↑(tableR m (p ++ [w]) [v]).fst.length : Int)) ∧ (!decide ((↑((tableR m (p ++ [w]) [v]).fst.getD (0 : Nat) []).length :
  Int) = (↑(p ++ [w]).length : Int))) = false ∧ decide ((coverR m p l).fst < (coverR m (p ++ [w]) l).fst) = false ∧ ((0 : Int) ≤ (0 : Int) ∧ (0 : Int) < (↑(tableR m (p ++ [w])
  [v]).fst.length : Int)) ∧ ((0 : Int) ≤ (0 : Int) ∧ (0 : Int) ≤ (↑p.length : Int) ∧ (↑p.length : Int) ≤ (↑((tableR m (p ++ [w]) [v]).fst.getD (0 : Nat) []).length : Int)) ∧ True ∧
  ((0 : Int) ≤ (0 : Int) ∧ (0 : Int) < (↑(tableR m (p ++ [w]) [v]).fst.length : Int)) ∧ True ∧ ((0 : Int) ≤ (0 : Int) ∧ (0 : Int) < (↑(tableR m (p ++ [w]) [v]).fst.length : Int)) ∧
  ((0 : Int) ≤ (0 : Int) ∧ (0 : Int) ≤ (↑p.length : Int) ∧ (↑p.length : Int) ≤ (↑((tableR m (p ++ [w]) [v]).fst.getD (0 : Nat) []).length : Int)) ∧ True ∧ ((0 : Int) ≤ (0 : Int) ∧
  (0 : Int) < (↑(tableR m (p ++ [w]) [v]).fst.length : Int)) ∧ True ∧ True ∧ True ∧ decide ((loR m (shellsR m p l).fst (List.take ((↑p.length : Int).toNat - (0 : Nat)) (List.drop
  (0 : Nat) ((tableR m (p ++ [w]) [v]).fst.getD (0 : Nat) [])))).snd = (0 : Int)) = true ∧ decide ((loR m (shellsR m (p ++ [w]) l).fst ((tableR m (p ++ [w]) [v]).fst.getD (0 : Nat)
  [])).snd = (0 : Int)) = true ∧ decide ((hiR m (shellsR m p l).fst (List.take ((↑p.length : Int).toNat - (0 : Nat)) (List.drop (0 : Nat) ((tableR m (p ++ [w]) [v]).fst.getD (0 :
  Nat) [])))).snd = (0 : Int)) = true ∧ decide ((hiR m (shellsR m (p ++ [w]) l).fst ((tableR m (p ++ [w]) [v]).fst.getD (0 : Nat) [])).snd = (0 : Int)) = true ∧ decide ((nearestS m
  p v).snd.snd = (0 : Int)) = true ∧ True ∧ (true = true → (decide ((nearestS m (p ++ [w]) v).snd.snd = (0 : Int)) = true → (decide ((loR m (shellsR m p l).fst (List.take
  ((↑p.length : Int).toNat - (0 : Nat)) (List.drop (0 : Nat) ((tableR m (p ++ [w]) [v]).fst.getD (0 : Nat) [])))).fst ≤ (loR m (shellsR m (p ++ [w]) l).fst ((tableR m (p ++ [w])
  [v]).fst.getD (0 : Nat) [])).fst) = true → (decide ((hiR m (shellsR m (p ++ [w]) l).fst ((tableR m (p ++ [w]) [v]).fst.getD (0 : Nat) [])).fst ≤ (hiR m (shellsR m p l).fst
  (List.take ((↑p.length : Int).toNat - (0 : Nat)) (List.drop (0 : Nat) ((tableR m (p ++ [w]) [v]).fst.getD (0 : Nat) [])))).fst) = true → (decide ((loR m (shellsR m (p ++ [w])
  l).fst ((tableR m (p ++ [w]) [v]).fst.getD (0 : Nat) [])).fst ≤ (hiR m (shellsR m (p ++ [w]) l).fst ((tableR m (p ++ [w]) [v]).fst.getD (0 : Nat) [])).fst) = true → (decide
  ((nearestS m (p ++ [w]) v).snd.fst ≤ (nearestS m p v).snd.fst) = true → (decide ((nearestS m (p ++ [w]) v).fst = (nearestS m p v).fst) = true → (decide ((nearestS m (p ++ [w])
  v).snd.fst = (nearestS m p v).snd.fst) = true → true = true) ∧ (decide ((nearestS m (p ++ [w]) v).snd.fst = (nearestS m p v).snd.fst) = false → (decide ((nearestS m (p ++ [w])
  v).fst = (↑p.length : Int)) = true → decide ((nearestS m (p ++ [w]) v).snd.fst < (nearestS m p v).snd.fst) = true) ∧ (decide ((nearestS m (p ++ [w]) v).fst = (↑p.length : Int)) =
  false → false = true))) ∧ (decide ((nearestS m (p ++ [w]) v).fst = (nearestS m p v).fst) = false → (decide ((nearestS m (p ++ [w]) v).fst = (↑p.length : Int)) = true → decide
  ((nearestS m (p ++ [w]) v).snd.fst < (nearestS m p v).snd.fst) = true) ∧ (decide ((nearestS m (p ++ [w]) v).fst = (↑p.length : Int)) = false → false = true))) ∧ (decide
  ((nearestS m (p ++ [w]) v).snd.fst ≤ (nearestS m p v).snd.fst) = false → false = true)) ∧ (decide ((loR m (shellsR m (p ++ [w]) l).fst ((tableR m (p ++ [w]) [v]).fst.getD (0 :
  Nat) [])).fst ≤ (hiR m (shellsR m (p ++ [w]) l).fst ((tableR m (p ++ [w]) [v]).fst.getD (0 : Nat) [])).fst) = false → false = true)) ∧ (decide ((hiR m (shellsR m (p ++ [w])
  l).fst ((tableR m (p ++ [w]) [v]).fst.getD (0 : Nat) [])).fst ≤ (hiR m (shellsR m p l).fst (List.take ((↑p.length : Int).toNat - (0 : Nat)) (List.drop (0 : Nat) ((tableR m (p ++
  [w]) [v]).fst.getD (0 : Nat) [])))).fst) = false → false = true)) ∧ (decide ((loR m (shellsR m p l).fst (List.take ((↑p.length : Int).toNat - (0 : Nat)) (List.drop (0 : Nat)
  ((tableR m (p ++ [w]) [v]).fst.getD (0 : Nat) [])))).fst ≤ (loR m (shellsR m (p ++ [w]) l).fst ((tableR m (p ++ [w]) [v]).fst.getD (0 : Nat) [])).fst) = false → false = true)) ∧
  (decide ((nearestS m (p ++ [w]) v).snd.snd = (0 : Int)) = false → false = true)) ∧ (true = false → false = true))))))) := by kernel_rfl
end Go.Proofs.Ytdhfjgooamoodaa
