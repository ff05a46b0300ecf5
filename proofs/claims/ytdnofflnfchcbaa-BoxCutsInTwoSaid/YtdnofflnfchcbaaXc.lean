import Derived.Test.YtdnofflnfchcbaaXa
namespace Go.Proofs.Ytdnofflnfchcbaa
open Go.AM Go.PL
set_option linter.unusedVariables false
theorem alike_nf (a b : Box) : fnwp B2 6 44 alikSp (a, b) = (True ∧ (bval a = true → True ∧ (bval b = true → decide ((↑a.fst.length : Int) = (↑b.fst.length : Int)) = balike a b) ∧
  (bval b = false → false = balike a b)) ∧ (bval a = false → false = balike a b)) := by kernel_rfl
theorem rAlike_nf (a b : Box) : fnwp B2 6 53 alikSp (a, b) = (True ∧ (bval a = true → True ∧ (bval b = true → decide ((↑a.fst.length : Int) = (↑b.fst.length : Int)) = balike a b) ∧
  (bval b = false → false = balike a b)) ∧ (bval a = false → false = balike a b)) := by kernel_rfl
theorem has_nf (b : Box) (v : List Int) : fnwp B2 6 22 bhasSp (b, v) = (True ∧ ((!bval b) = true → false = bhas b v) ∧ ((!bval b) = false → ((!decide ((↑v.length : Int) =
  (↑b.fst.length : Int))) = true → false = bhas b v) ∧ ((!decide ((↑v.length : Int) = (↑b.fst.length : Int))) = false → ∃ (I : Int → Prop), ∃ (μ : Int → Nat), I (0 : Int) ∧ ∀ (x :
  Int), I x → (decide (x < (↑v.length : Int)) = true → ((0 : Int) ≤ x ∧ x < (↑v.length : Int)) ∧ ((0 : Int) ≤ x ∧ x < (↑b.fst.length : Int)) ∧ (decide (v.getD x.toNat (0 : Int) <
  b.fst.getD x.toNat (0 : Int)) = true → false = bhas b v) ∧ (decide (v.getD x.toNat (0 : Int) < b.fst.getD x.toNat (0 : Int)) = false → ((0 : Int) ≤ x ∧ x < (↑b.snd.fst.length :
  Int)) ∧ (decide (b.snd.fst.getD x.toNat (0 : Int) < v.getD x.toNat (0 : Int)) = true → false = bhas b v) ∧ (decide (b.snd.fst.getD x.toNat (0 : Int) < v.getD x.toNat (0 : Int)) =
  false → isI64 (x + (1 : Int)) ∧ I (x + (1 : Int)) ∧ μ (x + (1 : Int)) < μ x))) ∧ (decide (x < (↑v.length : Int)) = false → true = bhas b v)))) := by kernel_rfl
theorem rHas_nf (b : Box) (v : List Int) : fnwp B2 6 23 bhasSp (b, v) = (True ∧ ((!bval b) = true → false = bhas b v) ∧ ((!bval b) = false → ((!decide ((↑v.length : Int) =
  (↑b.fst.length : Int))) = true → false = bhas b v) ∧ ((!decide ((↑v.length : Int) = (↑b.fst.length : Int))) = false → ∃ (I : Int → Prop), ∃ (μ : Int → Nat), I (0 : Int) ∧ ∀ (x :
  Int), I x → (decide (x < (↑v.length : Int)) = true → ((0 : Int) ≤ x ∧ x < (↑v.length : Int)) ∧ ((0 : Int) ≤ x ∧ x < (↑b.fst.length : Int)) ∧ (decide (v.getD x.toNat (0 : Int) <
  b.fst.getD x.toNat (0 : Int)) = true → false = bhas b v) ∧ (decide (v.getD x.toNat (0 : Int) < b.fst.getD x.toNat (0 : Int)) = false → ((0 : Int) ≤ x ∧ x < (↑v.length : Int)) ∧
  ((0 : Int) ≤ x ∧ x < (↑b.snd.fst.length : Int)) ∧ (decide (b.snd.fst.getD x.toNat (0 : Int) < v.getD x.toNat (0 : Int)) = true → false = bhas b v) ∧ (decide (b.snd.fst.getD
  x.toNat (0 : Int) < v.getD x.toNat (0 : Int)) = false → isI64 (x + (1 : Int)) ∧ I (x + (1 : Int)) ∧ μ (x + (1 : Int)) < μ x))) ∧ (decide (x < (↑v.length : Int)) = false → true =
  bhas b v)))) := by kernel_rfl
theorem ask_nf (m : Int) (b : Box) (v : List Int) : fnwp B2 6 52 askSp (m, b, v) = (True ∧ (isM m = true → True ∧ (bval b = true → True ∧ (bvec v = true → decide ((↑v.length : Int)
  = (↑b.fst.length : Int)) = basked m b v) ∧ (bvec v = false → false = basked m b v)) ∧ (bval b = false → false = basked m b v)) ∧ (isM m = false → false = basked m b v)) := by
  kernel_rfl
theorem rNearest_nf (b : Box) (v : List Int) : fnwp B2 6 30 rNearestSp (b, v) = (∃ (I : List Int × Int → Prop), ∃ (μ : List Int × Int → Nat), I ([], (0 : Int)) ∧ ∀ (x : List Int ×
  Int), I x → (decide (x.snd < (↑v.length : Int)) = true → ((0 : Int) ≤ x.snd ∧ x.snd < (↑v.length : Int)) ∧ ((0 : Int) ≤ x.snd ∧ x.snd < (↑b.fst.length : Int)) ∧ ((0 : Int) ≤
  x.snd ∧ x.snd < (↑b.snd.fst.length : Int)) ∧ roomP B2 (3 : Nat) (x.fst.length + [min (max (v.getD x.snd.toNat (0 : Int)) (b.fst.getD x.snd.toNat (0 : Int))) (b.snd.fst.getD
  x.snd.toNat (0 : Int))].length) ∧ isI64 (x.snd + (1 : Int)) ∧ I (x.fst ++ [min (max (v.getD x.snd.toNat (0 : Int)) (b.fst.getD x.snd.toNat (0 : Int))) (b.snd.fst.getD x.snd.toNat
  (0 : Int))], x.snd + (1 : Int)) ∧ μ (x.fst ++ [min (max (v.getD x.snd.toNat (0 : Int)) (b.fst.getD x.snd.toNat (0 : Int))) (b.snd.fst.getD x.snd.toNat (0 : Int))], x.snd + (1 :
  Int)) < μ x) ∧ (decide (x.snd < (↑v.length : Int)) = false → x.fst = nearestS b v)) := by kernel_rfl
theorem rFarthest_nf (b : Box) (v : List Int) : fnwp B2 6 31 rFarthestSp (b, v) = (∃ (I : List Int × Int → Prop), ∃ (μ : List Int × Int → Nat), I ([], (0 : Int)) ∧ ∀ (x : List Int
  × Int), I x → (decide (x.snd < (↑v.length : Int)) = true → ((0 : Int) ≤ x.snd ∧ x.snd < (↑b.fst.length : Int)) ∧ ((0 : Int) ≤ x.snd ∧ x.snd < (↑b.snd.fst.length : Int)) ∧ ((0 :
  Int) ≤ x.snd ∧ x.snd < (↑v.length : Int)) ∧ isI64 (b.snd.fst.getD x.snd.toNat (0 : Int) - v.getD x.snd.toNat (0 : Int)) ∧ ((0 : Int) ≤ x.snd ∧ x.snd < (↑v.length : Int)) ∧ ((0 :
  Int) ≤ x.snd ∧ x.snd < (↑b.fst.length : Int)) ∧ isI64 (v.getD x.snd.toNat (0 : Int) - b.fst.getD x.snd.toNat (0 : Int)) ∧ (decide (v.getD x.snd.toNat (0 : Int) - b.fst.getD
  x.snd.toNat (0 : Int) < b.snd.fst.getD x.snd.toNat (0 : Int) - v.getD x.snd.toNat (0 : Int)) = true → ((0 : Int) ≤ x.snd ∧ x.snd < (↑b.snd.fst.length : Int)) ∧ roomP B2 (3 : Nat)
  (x.fst.length + [b.snd.fst.getD x.snd.toNat (0 : Int)].length) ∧ isI64 (x.snd + (1 : Int)) ∧ I (x.fst ++ [b.snd.fst.getD x.snd.toNat (0 : Int)], x.snd + (1 : Int)) ∧ μ (x.fst ++
  [b.snd.fst.getD x.snd.toNat (0 : Int)], x.snd + (1 : Int)) < μ x) ∧ (decide (v.getD x.snd.toNat (0 : Int) - b.fst.getD x.snd.toNat (0 : Int) < b.snd.fst.getD x.snd.toNat (0 :
  Int) - v.getD x.snd.toNat (0 : Int)) = false → roomP B2 (3 : Nat) (x.fst.length + [b.fst.getD x.snd.toNat (0 : Int)].length) ∧ isI64 (x.snd + (1 : Int)) ∧ I (x.fst ++ [b.fst.getD
  x.snd.toNat (0 : Int)], x.snd + (1 : Int)) ∧ μ (x.fst ++ [b.fst.getD x.snd.toNat (0 : Int)], x.snd + (1 : Int)) < μ x)) ∧ (decide (x.snd < (↑v.length : Int)) = false → x.fst =
  farthestS b v)) := by kernel_rfl
theorem cut_nf (b : Box) (x y : Int) : fnwp B2G 6 14 cutSp (b, x, y) = (True ∧ ((!bval b) = true → (([], [], ()), ([], [], ()), (1 : Int)) = cutS b x y) ∧ ((!bval b) = false →
  (decide (x < (0 : Int)) = true → (([], [], ()), ([], [], ()), (1 : Int)) = cutS b x y) ∧ (decide (x < (0 : Int)) = false → (decide ((↑b.fst.length : Int) ≤ x) = true → (([], [],
  ()), ([], [], ()), (1 : Int)) = cutS b x y) ∧ (decide ((↑b.fst.length : Int) ≤ x) = false → ((0 : Int) ≤ x ∧ x < (↑b.fst.length : Int)) ∧ (decide (y < b.fst.getD x.toNat (0 :
  Int)) = true → (([], [], ()), ([], [], ()), (1 : Int)) = cutS b x y) ∧ (decide (y < b.fst.getD x.toNat (0 : Int)) = false → ((0 : Int) ≤ x ∧ x < (↑b.snd.fst.length : Int)) ∧
  (decide (b.snd.fst.getD x.toNat (0 : Int) ≤ y) = true → (([], [], ()), ([], [], ()), (1 : Int)) = cutS b x y) ∧ (decide (b.snd.fst.getD x.toNat (0 : Int) ≤ y) = false →
  b.fst.length ≤ (1000000 : Nat) ∧ b.snd.fst.length ≤ (1000000 : Nat) ∧ b.fst.length ≤ (1000000 : Nat) ∧ b.snd.fst.length ≤ (1000000 : Nat) ∧ isI64 (y + (1 : Int)) ∧ ((0 : Int) ≤ x
  ∧ x < (↑b.snd.fst.length : Int)) ∧ ((0 : Int) ≤ x ∧ x < (↑b.fst.length : Int)) ∧ (((b.fst, b.snd.fst.set x.toNat y, ()), (b.fst.set x.toNat (y + (1 : Int)), b.snd.fst, ()), (0 :
  Int)) = cutS b x y ∧ ((b.fst, b.snd.fst.set x.toNat y, ()), (b.fst.set x.toNat (y + (1 : Int)), b.snd.fst, ()), (0 : Int)) = cutS b x y) ∧ ((b.fst, b.snd.fst.set x.toNat y, ()),
  (b.fst.set x.toNat (y + (1 : Int)), b.snd.fst, ()), (0 : Int)) = cutS b x y)))))) := by kernel_rfl
theorem rCut_nf (b : Box) (x y : Int) : fnwp B2 6 19 rCutSp (b, x, y) = (True ∧ ((!bval b) = true → (([], [], ()), ([], [], ()), (1 : Int), ()) = ((cutS b x y).fst, (cutS b x
  y).snd.fst, (cutS b x y).snd.snd, ())) ∧ ((!bval b) = false → (decide (x < (0 : Int)) = true → (([], [], ()), ([], [], ()), (1 : Int), ()) = ((cutS b x y).fst, (cutS b x
  y).snd.fst, (cutS b x y).snd.snd, ())) ∧ (decide (x < (0 : Int)) = false → (decide ((↑b.fst.length : Int) ≤ x) = true → (([], [], ()), ([], [], ()), (1 : Int), ()) = ((cutS b x
  y).fst, (cutS b x y).snd.fst, (cutS b x y).snd.snd, ())) ∧ (decide ((↑b.fst.length : Int) ≤ x) = false → ((0 : Int) ≤ x ∧ x < (↑b.fst.length : Int)) ∧ (decide (y < b.fst.getD
  x.toNat (0 : Int)) = true → (([], [], ()), ([], [], ()), (1 : Int), ()) = ((cutS b x y).fst, (cutS b x y).snd.fst, (cutS b x y).snd.snd, ())) ∧ (decide (y < b.fst.getD x.toNat (0
  : Int)) = false → ((0 : Int) ≤ x ∧ x < (↑b.snd.fst.length : Int)) ∧ (decide (b.snd.fst.getD x.toNat (0 : Int) ≤ y) = true → (([], [], ()), ([], [], ()), (1 : Int), ()) = ((cutS b
  x y).fst, (cutS b x y).snd.fst, (cutS b x y).snd.snd, ())) ∧ (decide (b.snd.fst.getD x.toNat (0 : Int) ≤ y) = false → roomP B2 (3 : Nat) b.snd.fst.length ∧ roomP B2 (3 : Nat)
  b.fst.length ∧ ((0 : Int) ≤ x ∧ x < (↑b.snd.fst.length : Int)) ∧ isI64 (y + (1 : Int)) ∧ ((0 : Int) ≤ x ∧ x < (↑b.fst.length : Int)) ∧ roomP B2 (3 : Nat) b.fst.length ∧ roomP B2
  (3 : Nat) b.snd.fst.length ∧ ((b.fst, b.snd.fst.set x.toNat y, ()), (b.fst.set x.toNat (y + (1 : Int)), b.snd.fst, ()), (0 : Int), ()) = ((cutS b x y).fst, (cutS b x y).snd.fst,
  (cutS b x y).snd.snd, ()))))))) := by kernel_rfl
theorem split_nf (b : Box) : fnwp B2 6 15 splitSp b = (True ∧ ((!bval b) = true → ((0 : Int), (0 : Int), (1 : Int)) = splitS b) ∧ ((!bval b) = false → (sm b.snd.fst ∧ sm b.fst ∧
  b.snd.fst.length ≤ b.fst.length ∧ ((49 : Nat) = (58 : Nat) ∨ (49 : Nat) = (57 : Nat) ∨ (49 : Nat) = (49 : Nat))) ∧ (1 : Nat) ≤ (zipS b.snd.fst b.fst (49 : Nat)).length ∧ True ∧
  ((0 : Int) ≤ indexS (maxS (zipS b.snd.fst b.fst (49 : Nat))) (zipS b.snd.fst b.fst (49 : Nat)) ∧ indexS (maxS (zipS b.snd.fst b.fst (49 : Nat))) (zipS b.snd.fst b.fst (49 : Nat))
  < (↑(zipS b.snd.fst b.fst (49 : Nat)).length : Int)) ∧ (decide ((zipS b.snd.fst b.fst (49 : Nat)).getD (indexS (maxS (zipS b.snd.fst b.fst (49 : Nat))) (zipS b.snd.fst b.fst (49
  : Nat))).toNat (0 : Int) = (0 : Int)) = true → ((0 : Int), (0 : Int), (4 : Int)) = splitS b) ∧ (decide ((zipS b.snd.fst b.fst (49 : Nat)).getD (indexS (maxS (zipS b.snd.fst b.fst
  (49 : Nat))) (zipS b.snd.fst b.fst (49 : Nat))).toNat (0 : Int) = (0 : Int)) = false → ((0 : Int) ≤ indexS (maxS (zipS b.snd.fst b.fst (49 : Nat))) (zipS b.snd.fst b.fst (49 :
  Nat)) ∧ indexS (maxS (zipS b.snd.fst b.fst (49 : Nat))) (zipS b.snd.fst b.fst (49 : Nat)) < (↑b.fst.length : Int)) ∧ ((0 : Int) ≤ indexS (maxS (zipS b.snd.fst b.fst (49 : Nat)))
  (zipS b.snd.fst b.fst (49 : Nat)) ∧ indexS (maxS (zipS b.snd.fst b.fst (49 : Nat))) (zipS b.snd.fst b.fst (49 : Nat)) < (↑(zipS b.snd.fst b.fst (49 : Nat)).length : Int)) ∧ ((2 :
  Int) ≠ (0 : Int) ∧ isI64 (((zipS b.snd.fst b.fst (49 : Nat)).getD (indexS (maxS (zipS b.snd.fst b.fst (49 : Nat))) (zipS b.snd.fst b.fst (49 : Nat))).toNat (0 : Int)).tdiv (2 :
  Int))) ∧ isI64 (b.fst.getD (indexS (maxS (zipS b.snd.fst b.fst (49 : Nat))) (zipS b.snd.fst b.fst (49 : Nat))).toNat (0 : Int) + ((zipS b.snd.fst b.fst (49 : Nat)).getD (indexS
  (maxS (zipS b.snd.fst b.fst (49 : Nat))) (zipS b.snd.fst b.fst (49 : Nat))).toNat (0 : Int)).tdiv (2 : Int)) ∧ (indexS (maxS (zipS b.snd.fst b.fst (49 : Nat))) (zipS b.snd.fst
  b.fst (49 : Nat)), b.fst.getD (indexS (maxS (zipS b.snd.fst b.fst (49 : Nat))) (zipS b.snd.fst b.fst (49 : Nat))).toNat (0 : Int) + ((zipS b.snd.fst b.fst (49 : Nat)).getD
  (indexS (maxS (zipS b.snd.fst b.fst (49 : Nat))) (zipS b.snd.fst b.fst (49 : Nat))).toNat (0 : Int)).tdiv (2 : Int), (0 : Int)) = splitS b))) := by kernel_rfl
theorem rSplit_nf (b : Box) : fnwp B2 6 20 rSplitSp b = (True ∧ ((!bval b) = true → ((0 : Int), (0 : Int), (1 : Int), ()) = ((splitS b).fst, (splitS b).snd.fst, (splitS b).snd.snd,
  ())) ∧ ((!bval b) = false → ∃ (I : Int × Int → Prop), ∃ (μ : Int × Int → Nat), I ((0 : Int), (0 : Int)) ∧ ∀ (x : Int × Int), I x → (decide (x.snd < (↑b.fst.length : Int)) = true
  → ((0 : Int) ≤ x.snd ∧ x.snd < (↑b.snd.fst.length : Int)) ∧ ((0 : Int) ≤ x.snd ∧ x.snd < (↑b.fst.length : Int)) ∧ isI64 (b.snd.fst.getD x.snd.toNat (0 : Int) - b.fst.getD
  x.snd.toNat (0 : Int)) ∧ ((0 : Int) ≤ x.fst ∧ x.fst < (↑b.snd.fst.length : Int)) ∧ ((0 : Int) ≤ x.fst ∧ x.fst < (↑b.fst.length : Int)) ∧ isI64 (b.snd.fst.getD x.fst.toNat (0 :
  Int) - b.fst.getD x.fst.toNat (0 : Int)) ∧ (decide (b.snd.fst.getD x.fst.toNat (0 : Int) - b.fst.getD x.fst.toNat (0 : Int) < b.snd.fst.getD x.snd.toNat (0 : Int) - b.fst.getD
  x.snd.toNat (0 : Int)) = true → isI64 (x.snd + (1 : Int)) ∧ I (x.snd, x.snd + (1 : Int)) ∧ μ (x.snd, x.snd + (1 : Int)) < μ x) ∧ (decide (b.snd.fst.getD x.fst.toNat (0 : Int) -
  b.fst.getD x.fst.toNat (0 : Int) < b.snd.fst.getD x.snd.toNat (0 : Int) - b.fst.getD x.snd.toNat (0 : Int)) = false → isI64 (x.snd + (1 : Int)) ∧ I (x.fst, x.snd + (1 : Int)) ∧ μ
  (x.fst, x.snd + (1 : Int)) < μ x)) ∧ (decide (x.snd < (↑b.fst.length : Int)) = false → ((0 : Int) ≤ x.fst ∧ x.fst < (↑b.snd.fst.length : Int)) ∧ ((0 : Int) ≤ x.fst ∧ x.fst <
  (↑b.fst.length : Int)) ∧ (decide (b.snd.fst.getD x.fst.toNat (0 : Int) = b.fst.getD x.fst.toNat (0 : Int)) = true → ((0 : Int), (0 : Int), (4 : Int), ()) = ((splitS b).fst,
  (splitS b).snd.fst, (splitS b).snd.snd, ())) ∧ (decide (b.snd.fst.getD x.fst.toNat (0 : Int) = b.fst.getD x.fst.toNat (0 : Int)) = false → ((0 : Int) ≤ x.fst ∧ x.fst <
  (↑b.fst.length : Int)) ∧ ∃ (I : Int → Prop), ∃ (μ : Int → Nat), I (b.fst.getD x.fst.toNat (0 : Int)) ∧ ∀ (x_1 : Int), I x_1 → isI64 (x_1 + (1 : Int)) ∧ isI64 ((2 : Int) * (x_1 +
  (1 : Int))) ∧ ((0 : Int) ≤ x.fst ∧ x.fst < (↑b.fst.length : Int)) ∧ ((0 : Int) ≤ x.fst ∧ x.fst < (↑b.snd.fst.length : Int)) ∧ isI64 (b.fst.getD x.fst.toNat (0 : Int) +
  b.snd.fst.getD x.fst.toNat (0 : Int)) ∧ (decide ((2 : Int) * (x_1 + (1 : Int)) ≤ b.fst.getD x.fst.toNat (0 : Int) + b.snd.fst.getD x.fst.toNat (0 : Int)) = true → isI64 (x_1 + (1
  : Int)) ∧ I (x_1 + (1 : Int)) ∧ μ (x_1 + (1 : Int)) < μ x_1) ∧ (decide ((2 : Int) * (x_1 + (1 : Int)) ≤ b.fst.getD x.fst.toNat (0 : Int) + b.snd.fst.getD x.fst.toNat (0 : Int)) =
  false → (x.fst, x_1, (0 : Int), ()) = ((splitS b).fst, (splitS b).snd.fst, (splitS b).snd.snd, ())))))) := by kernel_rfl
theorem rOf_nf (l : List (List Int)) : fnwp B2 6 36 rOfSp l = (∃ (I : Int → Prop), ∃ (μ : Int → Nat), I (0 : Int) ∧ ∀ (x : Int), I x → (decide (x < (↑l.length : Int)) = true → ((0
  : Int) ≤ x ∧ x < (↑l.length : Int)) ∧ True ∧ ((!bvec (l.getD x.toNat [])) = true → (([], [], ()), false, (1 : Int), ()) = ((ofS l).fst, ofOk l, (ofS l).snd, ())) ∧ ((!bvec
  (l.getD x.toNat [])) = false → ((0 : Int) ≤ x ∧ x < (↑l.length : Int)) ∧ ((0 : Int) ≤ (0 : Int) ∧ (0 : Int) < (↑l.length : Int)) ∧ ((!decide ((↑(l.getD x.toNat []).length : Int)
  = (↑(l.getD (0 : Nat) []).length : Int))) = true → (([], [], ()), false, (1 : Int), ()) = ((ofS l).fst, ofOk l, (ofS l).snd, ())) ∧ ((!decide ((↑(l.getD x.toNat []).length : Int)
  = (↑(l.getD (0 : Nat) []).length : Int))) = false → isI64 (x + (1 : Int)) ∧ I (x + (1 : Int)) ∧ μ (x + (1 : Int)) < μ x))) ∧ (decide (x < (↑l.length : Int)) = false → (decide
  ((↑l.length : Int) = (0 : Int)) = true → (([], [], ()), false, (1 : Int), ()) = ((ofS l).fst, ofOk l, (ofS l).snd, ())) ∧ (decide ((↑l.length : Int) = (0 : Int)) = false → ∃ (I :
  List Int × List Int × Int → Prop), ∃ (μ : List Int × List Int × Int → Nat), I ([], [], (0 : Int)) ∧ ∀ (x : List Int × List Int × Int), I x → ((0 : Int) ≤ (0 : Int) ∧ (0 : Int) <
  (↑l.length : Int)) ∧ (decide (x.snd.snd < (↑(l.getD (0 : Nat) []).length : Int)) = true → ((0 : Int) ≤ (0 : Int) ∧ (0 : Int) < (↑l.length : Int)) ∧ ((0 : Int) ≤ x.snd.snd ∧
  x.snd.snd < (↑(l.getD (0 : Nat) []).length : Int)) ∧ ((0 : Int) ≤ (0 : Int) ∧ (0 : Int) < (↑l.length : Int)) ∧ ((0 : Int) ≤ x.snd.snd ∧ x.snd.snd < (↑(l.getD (0 : Nat) []).length
  : Int)) ∧ ∃ (I_1 : List Int × List Int × Int × Int × Int → Prop), ∃ (μ_1 : List Int × List Int × Int × Int × Int → Nat), I_1 (x.fst, x.snd.fst, (l.getD (0 : Nat) []).getD
  x.snd.snd.toNat (0 : Int), (l.getD (0 : Nat) []).getD x.snd.snd.toNat (0 : Int), (0 : Int)) ∧ ∀ (x_1 : List Int × List Int × Int × Int × Int), I_1 x_1 → (decide
  (x_1.snd.snd.snd.snd < (↑l.length : Int)) = true → ((0 : Int) ≤ x_1.snd.snd.snd.snd ∧ x_1.snd.snd.snd.snd < (↑l.length : Int)) ∧ ((0 : Int) ≤ x.snd.snd ∧ x.snd.snd < (↑(l.getD
  x_1.snd.snd.snd.snd.toNat []).length : Int)) ∧ ((0 : Int) ≤ x_1.snd.snd.snd.snd ∧ x_1.snd.snd.snd.snd < (↑l.length : Int)) ∧ ((0 : Int) ≤ x.snd.snd ∧ x.snd.snd < (↑(l.getD
  x_1.snd.snd.snd.snd.toNat []).length : Int)) ∧ isI64 (x_1.snd.snd.snd.snd + (1 : Int)) ∧ I_1 (x_1.fst, x_1.snd.fst, min x_1.snd.snd.fst ((l.getD x_1.snd.snd.snd.snd.toNat
  []).getD x.snd.snd.toNat (0 : Int)), max x_1.snd.snd.snd.fst ((l.getD x_1.snd.snd.snd.snd.toNat []).getD x.snd.snd.toNat (0 : Int)), x_1.snd.snd.snd.snd + (1 : Int)) ∧ μ_1
  (x_1.fst, x_1.snd.fst, min x_1.snd.snd.fst ((l.getD x_1.snd.snd.snd.snd.toNat []).getD x.snd.snd.toNat (0 : Int)), max x_1.snd.snd.snd.fst ((l.getD x_1.snd.snd.snd.snd.toNat
  []).getD x.snd.snd.toNat (0 : Int)), x_1.snd.snd.snd.snd + (1 : Int)) < μ_1 x_1) ∧ (decide (x_1.snd.snd.snd.snd < (↑l.length : Int)) = false → roomP B2 (3 : Nat) (x_1.fst.length
  + [x_1.snd.snd.fst].length) ∧ roomP B2 (3 : Nat) (x_1.snd.fst.length + [x_1.snd.snd.snd.fst].length) ∧ isI64 (x.snd.snd + (1 : Int)) ∧ I (x_1.fst ++ [x_1.snd.snd.fst],
  x_1.snd.fst ++ [x_1.snd.snd.snd.fst], x.snd.snd + (1 : Int)) ∧ μ (x_1.fst ++ [x_1.snd.snd.fst], x_1.snd.fst ++ [x_1.snd.snd.snd.fst], x.snd.snd + (1 : Int)) < μ x)) ∧ (decide
  (x.snd.snd < (↑(l.getD (0 : Nat) []).length : Int)) = false → ((x.fst, x.snd.fst, ()), true, (0 : Int), ()) = ((ofS l).fst, ofOk l, (ofS l).snd, ()))))) := by kernel_rfl
theorem near_nf (m : Int) (b : Box) (v : List Int) : fnwp B3 7 11 nearSp (m, b, v) = (True ∧ ((!bval b) = true → ((0 : Int), (1 : Int)) = nearS m b v) ∧ ((!bval b) = false → True ∧
  ((!bvec v) = true → ((0 : Int), (1 : Int)) = nearS m b v) ∧ ((!bvec v) = false → ((!decide ((↑v.length : Int) = (↑b.fst.length : Int))) = true → ((0 : Int), (1 : Int)) = nearS m
  b v) ∧ ((!decide ((↑v.length : Int) = (↑b.fst.length : Int))) = false → (decide (m = (1 : Int)) = true → ∃ (I : Int × Int → Prop), ∃ (μ : Int × Int → Nat), I ((0 : Int), (0 :
  Int)) ∧ ∀ (x : Int × Int), I x → (decide (x.fst < (↑v.length : Int)) = true → ((0 : Int) ≤ x.fst ∧ x.fst < (↑v.length : Int)) ∧ ((0 : Int) ≤ x.fst ∧ x.fst < (↑b.fst.length :
  Int)) ∧ ((0 : Int) ≤ x.fst ∧ x.fst < (↑b.snd.fst.length : Int)) ∧ (isI64 (b.fst.getD x.fst.toNat (0 : Int) - v.getD x.fst.toNat (0 : Int)) ∧ isI64 (v.getD x.fst.toNat (0 : Int) -
  b.snd.fst.getD x.fst.toNat (0 : Int))) ∧ isI64 (x.snd + max (0 : Int) (max (b.fst.getD x.fst.toNat (0 : Int) - v.getD x.fst.toNat (0 : Int)) (v.getD x.fst.toNat (0 : Int) -
  b.snd.fst.getD x.fst.toNat (0 : Int)))) ∧ isI64 (x.fst + (1 : Int)) ∧ I (x.fst + (1 : Int), x.snd + max (0 : Int) (max (b.fst.getD x.fst.toNat (0 : Int) - v.getD x.fst.toNat (0 :
  Int)) (v.getD x.fst.toNat (0 : Int) - b.snd.fst.getD x.fst.toNat (0 : Int)))) ∧ μ (x.fst + (1 : Int), x.snd + max (0 : Int) (max (b.fst.getD x.fst.toNat (0 : Int) - v.getD
  x.fst.toNat (0 : Int)) (v.getD x.fst.toNat (0 : Int) - b.snd.fst.getD x.fst.toNat (0 : Int)))) < μ x) ∧ (decide (x.fst < (↑v.length : Int)) = false → (x.snd, (0 : Int)) = nearS m
  b v)) ∧ (decide (m = (1 : Int)) = false → (decide (m = (2 : Int)) = true → ∃ (I : Int × Int → Prop), ∃ (μ : Int × Int → Nat), I ((0 : Int), (0 : Int)) ∧ ∀ (x : Int × Int), I x →
  (decide (x.fst < (↑v.length : Int)) = true → ((0 : Int) ≤ x.fst ∧ x.fst < (↑v.length : Int)) ∧ ((0 : Int) ≤ x.fst ∧ x.fst < (↑b.fst.length : Int)) ∧ ((0 : Int) ≤ x.fst ∧ x.fst <
  (↑b.snd.fst.length : Int)) ∧ (isI64 (b.fst.getD x.fst.toNat (0 : Int) - v.getD x.fst.toNat (0 : Int)) ∧ isI64 (v.getD x.fst.toNat (0 : Int) - b.snd.fst.getD x.fst.toNat (0 :
  Int))) ∧ isI64 (max (0 : Int) (max (b.fst.getD x.fst.toNat (0 : Int) - v.getD x.fst.toNat (0 : Int)) (v.getD x.fst.toNat (0 : Int) - b.snd.fst.getD x.fst.toNat (0 : Int))) * max
  (0 : Int) (max (b.fst.getD x.fst.toNat (0 : Int) - v.getD x.fst.toNat (0 : Int)) (v.getD x.fst.toNat (0 : Int) - b.snd.fst.getD x.fst.toNat (0 : Int)))) ∧ isI64 (x.snd + max (0 :
  Int) (max (b.fst.getD x.fst.toNat (0 : Int) - v.getD x.fst.toNat (0 : Int)) (v.getD x.fst.toNat (0 : Int) - b.snd.fst.getD x.fst.toNat (0 : Int))) * max (0 : Int) (max
  (b.fst.getD x.fst.toNat (0 : Int) - v.getD x.fst.toNat (0 : Int)) (v.getD x.fst.toNat (0 : Int) - b.snd.fst.getD x.fst.toNat (0 : Int)))) ∧ isI64 (x.fst + (1 : Int)) ∧ I (x.fst +
  (1 : Int), x.snd + max (0 : Int) (max (b.fst.getD x.fst.toNat (0 : Int) - v.getD x.fst.toNat (0 : Int)) (v.getD x.fst.toNat (0 : Int) - b.snd.fst.getD x.fst.toNat (0 : Int))) *
  max (0 : Int) (max (b.fst.getD x.fst.toNat (0 : Int) - v.getD x.fst.toNat (0 : Int)) (v.getD x.fst.toNat (0 : Int) - b.snd.fst.getD x.fst.toNat (0 : Int)))) ∧ μ (x.fst + (1 :
  Int), x.snd + max (0 : Int) (max (b.fst.getD x.fst.toNat (0 : Int) - v.getD x.fst.toNat (0 : Int)) (v.getD x.fst.toNat (0 : Int) - b.snd.fst.getD x.fst.toNat (0 : Int))) * max (0
  : Int) (max (b.fst.getD x.fst.toNat (0 : Int) - v.getD x.fst.toNat (0 : Int)) (v.getD x.fst.toNat (0 : Int) - b.snd.fst.getD x.fst.toNat (0 : Int)))) < μ x) ∧ (decide (x.fst <
  (↑v.length : Int)) = false → (x.snd, (0 : Int)) = nearS m b v)) ∧ (decide (m = (2 : Int)) = false → (decide (m = (3 : Int)) = true → ∃ (I : Int × Int → Prop), ∃ (μ : Int × Int →
  Nat), I ((0 : Int), (0 : Int)) ∧ ∀ (x : Int × Int), I x → (decide (x.fst < (↑v.length : Int)) = true → ((0 : Int) ≤ x.fst ∧ x.fst < (↑v.length : Int)) ∧ ((0 : Int) ≤ x.fst ∧
  x.fst < (↑b.fst.length : Int)) ∧ ((0 : Int) ≤ x.fst ∧ x.fst < (↑b.snd.fst.length : Int)) ∧ (isI64 (b.fst.getD x.fst.toNat (0 : Int) - v.getD x.fst.toNat (0 : Int)) ∧ isI64
  (v.getD x.fst.toNat (0 : Int) - b.snd.fst.getD x.fst.toNat (0 : Int))) ∧ isI64 (x.fst + (1 : Int)) ∧ I (x.fst + (1 : Int), max x.snd (max (0 : Int) (max (b.fst.getD x.fst.toNat
  (0 : Int) - v.getD x.fst.toNat (0 : Int)) (v.getD x.fst.toNat (0 : Int) - b.snd.fst.getD x.fst.toNat (0 : Int))))) ∧ μ (x.fst + (1 : Int), max x.snd (max (0 : Int) (max
  (b.fst.getD x.fst.toNat (0 : Int) - v.getD x.fst.toNat (0 : Int)) (v.getD x.fst.toNat (0 : Int) - b.snd.fst.getD x.fst.toNat (0 : Int))))) < μ x) ∧ (decide (x.fst < (↑v.length :
  Int)) = false → (x.snd, (0 : Int)) = nearS m b v)) ∧ (decide (m = (3 : Int)) = false → ((0 : Int), (1 : Int)) = nearS m b v))))))) := by kernel_rfl
theorem far_nf (m : Int) (b : Box) (v : List Int) : fnwp B3 7 12 farSp (m, b, v) = (True ∧ ((!bval b) = true → ((0 : Int), (1 : Int)) = farS m b v) ∧ ((!bval b) = false → True ∧
  ((!bvec v) = true → ((0 : Int), (1 : Int)) = farS m b v) ∧ ((!bvec v) = false → ((!decide ((↑v.length : Int) = (↑b.fst.length : Int))) = true → ((0 : Int), (1 : Int)) = farS m b
  v) ∧ ((!decide ((↑v.length : Int) = (↑b.fst.length : Int))) = false → (decide (m = (1 : Int)) = true → ∃ (I : Int × Int → Prop), ∃ (μ : Int × Int → Nat), I ((0 : Int), (0 : Int))
  ∧ ∀ (x : Int × Int), I x → (decide (x.fst < (↑v.length : Int)) = true → ((0 : Int) ≤ x.fst ∧ x.fst < (↑v.length : Int)) ∧ ((0 : Int) ≤ x.fst ∧ x.fst < (↑b.fst.length : Int)) ∧
  ((0 : Int) ≤ x.fst ∧ x.fst < (↑b.snd.fst.length : Int)) ∧ (isI64 (b.snd.fst.getD x.fst.toNat (0 : Int) - v.getD x.fst.toNat (0 : Int)) ∧ isI64 (v.getD x.fst.toNat (0 : Int) -
  b.fst.getD x.fst.toNat (0 : Int))) ∧ isI64 (x.snd + max (b.snd.fst.getD x.fst.toNat (0 : Int) - v.getD x.fst.toNat (0 : Int)) (v.getD x.fst.toNat (0 : Int) - b.fst.getD
  x.fst.toNat (0 : Int))) ∧ isI64 (x.fst + (1 : Int)) ∧ I (x.fst + (1 : Int), x.snd + max (b.snd.fst.getD x.fst.toNat (0 : Int) - v.getD x.fst.toNat (0 : Int)) (v.getD x.fst.toNat
  (0 : Int) - b.fst.getD x.fst.toNat (0 : Int))) ∧ μ (x.fst + (1 : Int), x.snd + max (b.snd.fst.getD x.fst.toNat (0 : Int) - v.getD x.fst.toNat (0 : Int)) (v.getD x.fst.toNat (0 :
  Int) - b.fst.getD x.fst.toNat (0 : Int))) < μ x) ∧ (decide (x.fst < (↑v.length : Int)) = false → (x.snd, (0 : Int)) = farS m b v)) ∧ (decide (m = (1 : Int)) = false → (decide (m
  = (2 : Int)) = true → ∃ (I : Int × Int → Prop), ∃ (μ : Int × Int → Nat), I ((0 : Int), (0 : Int)) ∧ ∀ (x : Int × Int), I x → (decide (x.fst < (↑v.length : Int)) = true → ((0 :
  Int) ≤ x.fst ∧ x.fst < (↑v.length : Int)) ∧ ((0 : Int) ≤ x.fst ∧ x.fst < (↑b.fst.length : Int)) ∧ ((0 : Int) ≤ x.fst ∧ x.fst < (↑b.snd.fst.length : Int)) ∧ (isI64 (b.snd.fst.getD
  x.fst.toNat (0 : Int) - v.getD x.fst.toNat (0 : Int)) ∧ isI64 (v.getD x.fst.toNat (0 : Int) - b.fst.getD x.fst.toNat (0 : Int))) ∧ isI64 (max (b.snd.fst.getD x.fst.toNat (0 :
  Int) - v.getD x.fst.toNat (0 : Int)) (v.getD x.fst.toNat (0 : Int) - b.fst.getD x.fst.toNat (0 : Int)) * max (b.snd.fst.getD x.fst.toNat (0 : Int) - v.getD x.fst.toNat (0 : Int))
  (v.getD x.fst.toNat (0 : Int) - b.fst.getD x.fst.toNat (0 : Int))) ∧ isI64 (x.snd + max (b.snd.fst.getD x.fst.toNat (0 : Int) - v.getD x.fst.toNat (0 : Int)) (v.getD x.fst.toNat
  (0 : Int) - b.fst.getD x.fst.toNat (0 : Int)) * max (b.snd.fst.getD x.fst.toNat (0 : Int) - v.getD x.fst.toNat (0 : Int)) (v.getD x.fst.toNat (0 : Int) - b.fst.getD x.fst.toNat
  (0 : Int))) ∧ isI64 (x.fst + (1 : Int)) ∧ I (x.fst + (1 : Int), x.snd + max (b.snd.fst.getD x.fst.toNat (0 : Int) - v.getD x.fst.toNat (0 : Int)) (v.getD x.fst.toNat (0 : Int) -
  b.fst.getD x.fst.toNat (0 : Int)) * max (b.snd.fst.getD x.fst.toNat (0 : Int) - v.getD x.fst.toNat (0 : Int)) (v.getD x.fst.toNat (0 : Int) - b.fst.getD x.fst.toNat (0 : Int))) ∧
  μ (x.fst + (1 : Int), x.snd + max (b.snd.fst.getD x.fst.toNat (0 : Int) - v.getD x.fst.toNat (0 : Int)) (v.getD x.fst.toNat (0 : Int) - b.fst.getD x.fst.toNat (0 : Int)) * max
  (b.snd.fst.getD x.fst.toNat (0 : Int) - v.getD x.fst.toNat (0 : Int)) (v.getD x.fst.toNat (0 : Int) - b.fst.getD x.fst.toNat (0 : Int))) < μ x) ∧ (decide (x.fst < (↑v.length :
  Int)) = false → (x.snd, (0 : Int)) = farS m b v)) ∧ (decide (m = (2 : Int)) = false → (decide (m = (3 : Int)) = true → ∃ (I : Int × Int → Prop), ∃ (μ : Int × Int → Nat), I ((0 :
  Int), (0 : Int)) ∧ ∀ (x : Int × Int), I x → (decide (x.fst < (↑v.length : Int)) = true → ((0 : Int) ≤ x.fst ∧ x.fst < (↑v.length : Int)) ∧ ((0 : Int) ≤ x.fst ∧ x.fst <
  (↑b.fst.length : Int)) ∧ ((0 : Int) ≤ x.fst ∧ x.fst < (↑b.snd.fst.length : Int)) ∧ (isI64 (b.snd.fst.getD x.fst.toNat (0 : Int) - v.getD x.fst.toNat (0 : Int)) ∧ isI64 (v.getD
  x.fst.toNat (0 : Int) - b.fst.getD x.fst.toNat (0 : Int))) ∧ isI64 (x.fst + (1 : Int)) ∧ I (x.fst + (1 : Int), max x.snd (max (b.snd.fst.getD x.fst.toNat (0 : Int) - v.getD
  x.fst.toNat (0 : Int)) (v.getD x.fst.toNat (0 : Int) - b.fst.getD x.fst.toNat (0 : Int)))) ∧ μ (x.fst + (1 : Int), max x.snd (max (b.snd.fst.getD x.fst.toNat (0 : Int) - v.getD
  x.fst.toNat (0 : Int)) (v.getD x.fst.toNat (0 : Int) - b.fst.getD x.fst.toNat (0 : Int)))) < μ x) ∧ (decide (x.fst < (↑v.length : Int)) = false → (x.snd, (0 : Int)) = farS m b
  v)) ∧ (decide (m = (3 : Int)) = false → ((0 : Int), (1 : Int)) = farS m b v))))))) := by kernel_rfl
theorem apart_nf (m : Int) (a b : Box) : fnwp B3 7 13 apartSp (m, a, b) = (True ∧ ((!balike a b) = true → ((0 : Int), (1 : Int)) = apartS m a b) ∧ ((!balike a b) = false → (decide
  (m = (1 : Int)) = true → ∃ (I : Int × Int → Prop), ∃ (μ : Int × Int → Nat), I ((0 : Int), (0 : Int)) ∧ ∀ (x : Int × Int), I x → (decide (x.fst < (↑a.fst.length : Int)) = true →
  ((0 : Int) ≤ x.fst ∧ x.fst < (↑a.fst.length : Int)) ∧ ((0 : Int) ≤ x.fst ∧ x.fst < (↑b.snd.fst.length : Int)) ∧ isI64 (a.fst.getD x.fst.toNat (0 : Int) - b.snd.fst.getD
  x.fst.toNat (0 : Int)) ∧ ((0 : Int) ≤ x.fst ∧ x.fst < (↑b.fst.length : Int)) ∧ ((0 : Int) ≤ x.fst ∧ x.fst < (↑a.snd.fst.length : Int)) ∧ isI64 (b.fst.getD x.fst.toNat (0 : Int) -
  a.snd.fst.getD x.fst.toNat (0 : Int)) ∧ isI64 (x.snd + max (max (0 : Int) (a.fst.getD x.fst.toNat (0 : Int) - b.snd.fst.getD x.fst.toNat (0 : Int))) (b.fst.getD x.fst.toNat (0 :
  Int) - a.snd.fst.getD x.fst.toNat (0 : Int))) ∧ isI64 (x.fst + (1 : Int)) ∧ I (x.fst + (1 : Int), x.snd + max (max (0 : Int) (a.fst.getD x.fst.toNat (0 : Int) - b.snd.fst.getD
  x.fst.toNat (0 : Int))) (b.fst.getD x.fst.toNat (0 : Int) - a.snd.fst.getD x.fst.toNat (0 : Int))) ∧ μ (x.fst + (1 : Int), x.snd + max (max (0 : Int) (a.fst.getD x.fst.toNat (0 :
  Int) - b.snd.fst.getD x.fst.toNat (0 : Int))) (b.fst.getD x.fst.toNat (0 : Int) - a.snd.fst.getD x.fst.toNat (0 : Int))) < μ x) ∧ (decide (x.fst < (↑a.fst.length : Int)) = false
  → (x.snd, (0 : Int)) = apartS m a b)) ∧ (decide (m = (1 : Int)) = false → (decide (m = (2 : Int)) = true → ∃ (I : Int × Int → Prop), ∃ (μ : Int × Int → Nat), I ((0 : Int), (0 :
  Int)) ∧ ∀ (x : Int × Int), I x → (decide (x.fst < (↑a.fst.length : Int)) = true → ((0 : Int) ≤ x.fst ∧ x.fst < (↑a.fst.length : Int)) ∧ ((0 : Int) ≤ x.fst ∧ x.fst <
  (↑b.snd.fst.length : Int)) ∧ isI64 (a.fst.getD x.fst.toNat (0 : Int) - b.snd.fst.getD x.fst.toNat (0 : Int)) ∧ ((0 : Int) ≤ x.fst ∧ x.fst < (↑b.fst.length : Int)) ∧ ((0 : Int) ≤
  x.fst ∧ x.fst < (↑a.snd.fst.length : Int)) ∧ isI64 (b.fst.getD x.fst.toNat (0 : Int) - a.snd.fst.getD x.fst.toNat (0 : Int)) ∧ isI64 (max (max (0 : Int) (a.fst.getD x.fst.toNat
  (0 : Int) - b.snd.fst.getD x.fst.toNat (0 : Int))) (b.fst.getD x.fst.toNat (0 : Int) - a.snd.fst.getD x.fst.toNat (0 : Int)) * max (max (0 : Int) (a.fst.getD x.fst.toNat (0 :
  Int) - b.snd.fst.getD x.fst.toNat (0 : Int))) (b.fst.getD x.fst.toNat (0 : Int) - a.snd.fst.getD x.fst.toNat (0 : Int))) ∧ isI64 (x.snd + max (max (0 : Int) (a.fst.getD
  x.fst.toNat (0 : Int) - b.snd.fst.getD x.fst.toNat (0 : Int))) (b.fst.getD x.fst.toNat (0 : Int) - a.snd.fst.getD x.fst.toNat (0 : Int)) * max (max (0 : Int) (a.fst.getD
  x.fst.toNat (0 : Int) - b.snd.fst.getD x.fst.toNat (0 : Int))) (b.fst.getD x.fst.toNat (0 : Int) - a.snd.fst.getD x.fst.toNat (0 : Int))) ∧ isI64 (x.fst + (1 : Int)) ∧ I (x.fst +
  (1 : Int), x.snd + max (max (0 : Int) (a.fst.getD x.fst.toNat (0 : Int) - b.snd.fst.getD x.fst.toNat (0 : Int))) (b.fst.getD x.fst.toNat (0 : Int) - a.snd.fst.getD x.fst.toNat (0
  : Int)) * max (max (0 : Int) (a.fst.getD x.fst.toNat (0 : Int) - b.snd.fst.getD x.fst.toNat (0 : Int))) (b.fst.getD x.fst.toNat (0 : Int) - a.snd.fst.getD x.fst.toNat (0 : Int)))
  ∧ μ (x.fst + (1 : Int), x.snd + max (max (0 : Int) (a.fst.getD x.fst.toNat (0 : Int) - b.snd.fst.getD x.fst.toNat (0 : Int))) (b.fst.getD x.fst.toNat (0 : Int) - a.snd.fst.getD
  x.fst.toNat (0 : Int)) * max (max (0 : Int) (a.fst.getD x.fst.toNat (0 : Int) - b.snd.fst.getD x.fst.toNat (0 : Int))) (b.fst.getD x.fst.toNat (0 : Int) - a.snd.fst.getD
  x.fst.toNat (0 : Int))) < μ x) ∧ (decide (x.fst < (↑a.fst.length : Int)) = false → (x.snd, (0 : Int)) = apartS m a b)) ∧ (decide (m = (2 : Int)) = false → (decide (m = (3 : Int))
  = true → ∃ (I : Int × Int → Prop), ∃ (μ : Int × Int → Nat), I ((0 : Int), (0 : Int)) ∧ ∀ (x : Int × Int), I x → (decide (x.fst < (↑a.fst.length : Int)) = true → ((0 : Int) ≤
  x.fst ∧ x.fst < (↑a.fst.length : Int)) ∧ ((0 : Int) ≤ x.fst ∧ x.fst < (↑b.snd.fst.length : Int)) ∧ isI64 (a.fst.getD x.fst.toNat (0 : Int) - b.snd.fst.getD x.fst.toNat (0 : Int))
  ∧ ((0 : Int) ≤ x.fst ∧ x.fst < (↑b.fst.length : Int)) ∧ ((0 : Int) ≤ x.fst ∧ x.fst < (↑a.snd.fst.length : Int)) ∧ isI64 (b.fst.getD x.fst.toNat (0 : Int) - a.snd.fst.getD
  x.fst.toNat (0 : Int)) ∧ isI64 (x.fst + (1 : Int)) ∧ I (x.fst + (1 : Int), max x.snd (max (max (0 : Int) (a.fst.getD x.fst.toNat (0 : Int) - b.snd.fst.getD x.fst.toNat (0 :
  Int))) (b.fst.getD x.fst.toNat (0 : Int) - a.snd.fst.getD x.fst.toNat (0 : Int)))) ∧ μ (x.fst + (1 : Int), max x.snd (max (max (0 : Int) (a.fst.getD x.fst.toNat (0 : Int) -
  b.snd.fst.getD x.fst.toNat (0 : Int))) (b.fst.getD x.fst.toNat (0 : Int) - a.snd.fst.getD x.fst.toNat (0 : Int)))) < μ x) ∧ (decide (x.fst < (↑a.fst.length : Int)) = false →
  (x.snd, (0 : Int)) = apartS m a b)) ∧ (decide (m = (3 : Int)) = false → ((0 : Int), (1 : Int)) = apartS m a b))))) := by kernel_rfl
theorem rNear_nf (m : Int) (b : Box) (v : List Int) : fnwp B3 6 16 rNearSp (m, b, v) = (True ∧ ((!basked m b v) = true → ((0 : Int), (1 : Int), ()) = ((nearS m b v).fst, (nearS m b
  v).snd, ())) ∧ ((!basked m b v) = false → (bval b = true ∧ v.length = b.fst.length) ∧ (isM m = true ∧ sm (nearestS b v) ∧ sm v ∧ (nearestS b v).length ≤ v.length) ∧ (sumK m
  (nearestS b v).length (keyF (nearestS b v) v), (0 : Int), ()) = ((nearS m b v).fst, (nearS m b v).snd, ()))) := by kernel_rfl
theorem rFar_nf (m : Int) (b : Box) (v : List Int) : fnwp B3 6 17 rFarSp (m, b, v) = (True ∧ ((!basked m b v) = true → ((0 : Int), (1 : Int), ()) = ((farS m b v).fst, (farS m b
  v).snd, ())) ∧ ((!basked m b v) = false → (bval b = true ∧ bvec v = true ∧ v.length = b.fst.length) ∧ (isM m = true ∧ sm (farthestS b v) ∧ sm v ∧ (farthestS b v).length ≤
  v.length) ∧ (sumK m (farthestS b v).length (keyF (farthestS b v) v), (0 : Int), ()) = ((farS m b v).fst, (farS m b v).snd, ()))) := by kernel_rfl
theorem rApart_nf (m : Int) (a b : Box) : fnwp B3 6 18 rApartSp (m, a, b) = (True ∧ ((!isM m) = true → ((0 : Int), (1 : Int), ()) = ((apartS m a b).fst, (apartS m a b).snd, ())) ∧
  ((!isM m) = false → True ∧ ((!balike a b) = true → ((0 : Int), (1 : Int), ()) = ((apartS m a b).fst, (apartS m a b).snd, ())) ∧ ((!balike a b) = false → ∃ (I : List Int × List
  Int × Int → Prop), ∃ (μ : List Int × List Int × Int → Nat), I ([], [], (0 : Int)) ∧ ∀ (x : List Int × List Int × Int), I x → (decide (x.snd.snd < (↑a.fst.length : Int)) = true →
  ((0 : Int) ≤ x.snd.snd ∧ x.snd.snd < (↑a.fst.length : Int)) ∧ ((0 : Int) ≤ x.snd.snd ∧ x.snd.snd < (↑b.snd.fst.length : Int)) ∧ isI64 (a.fst.getD x.snd.snd.toNat (0 : Int) -
  b.snd.fst.getD x.snd.snd.toNat (0 : Int)) ∧ ((0 : Int) ≤ x.snd.snd ∧ x.snd.snd < (↑b.fst.length : Int)) ∧ ((0 : Int) ≤ x.snd.snd ∧ x.snd.snd < (↑a.snd.fst.length : Int)) ∧ isI64
  (b.fst.getD x.snd.snd.toNat (0 : Int) - a.snd.fst.getD x.snd.snd.toNat (0 : Int)) ∧ roomP B3 (3 : Nat) (x.fst.length + [max (0 : Int) (max (a.fst.getD x.snd.snd.toNat (0 : Int) -
  b.snd.fst.getD x.snd.snd.toNat (0 : Int)) (b.fst.getD x.snd.snd.toNat (0 : Int) - a.snd.fst.getD x.snd.snd.toNat (0 : Int)))].length) ∧ roomP B3 (3 : Nat) (x.snd.fst.length + (1
  : Nat)) ∧ isI64 (x.snd.snd + (1 : Int)) ∧ I (x.fst ++ [max (0 : Int) (max (a.fst.getD x.snd.snd.toNat (0 : Int) - b.snd.fst.getD x.snd.snd.toNat (0 : Int)) (b.fst.getD
  x.snd.snd.toNat (0 : Int) - a.snd.fst.getD x.snd.snd.toNat (0 : Int)))], x.snd.fst ++ [(0 : Int)], x.snd.snd + (1 : Int)) ∧ μ (x.fst ++ [max (0 : Int) (max (a.fst.getD
  x.snd.snd.toNat (0 : Int) - b.snd.fst.getD x.snd.snd.toNat (0 : Int)) (b.fst.getD x.snd.snd.toNat (0 : Int) - a.snd.fst.getD x.snd.snd.toNat (0 : Int)))], x.snd.fst ++ [(0 :
  Int)], x.snd.snd + (1 : Int)) < μ x) ∧ (decide (x.snd.snd < (↑a.fst.length : Int)) = false → (isM m = true ∧ sm x.fst ∧ sm x.snd.fst ∧ x.fst.length ≤ x.snd.fst.length) ∧ (sumK m
  x.fst.length (keyF x.fst x.snd.fst), (0 : Int), ()) = ((apartS m a b).fst, (apartS m a b).snd, ()))))) := by kernel_rfl
theorem of_nf (l : List (List Int)) : fnwp B3 7 34 ofSp l = ((decide ((↑l.length : Int) = (0 : Int)) = true → (([], [], ()), (1 : Int)) = ofS l) ∧ (decide ((↑l.length : Int) = (0 :
  Int)) = false → ∃ (I : Int → Prop), ∃ (μ : Int → Nat), I (0 : Int) ∧ ∀ (x : Int), I x → (decide (x < (↑l.length : Int)) = true → ((0 : Int) ≤ x ∧ x < (↑l.length : Int)) ∧ True ∧
  ((!bvec (l.getD x.toNat [])) = true → (decide ((0 : Int) ≤ x) = true → (([], [], ()), (1 : Int)) = ofS l) ∧ (decide ((0 : Int) ≤ x) = false → ((0 : Int) ≤ (0 : Int) ∧ (0 : Int) <
  (↑l.length : Int)) ∧ (l.getD (0 : Nat) []).length ≤ (1000000 : Nat) ∧ ((0 : Int) ≤ (0 : Int) ∧ (0 : Int) < (↑l.length : Int)) ∧ (l.getD (0 : Nat) []).length ≤ (1000000 : Nat) ∧
  ((0 : Int) ≤ (1 : Int) ∧ (1 : Int) ≤ (↑l.length : Int)) ∧ ∃ (I : Int × List Int × List Int → Prop), ∃ (μ : Int × List Int × List Int → Nat), I ((0 : Int), l.getD (0 : Nat) [],
  l.getD (0 : Nat) []) ∧ ∀ (x : Int × List Int × List Int), I x → (decide (x.fst < (↑(List.take (l.length - (1 : Nat)) (List.drop (1 : Nat) l)).length : Int)) = true → ((0 : Int) ≤
  x.fst ∧ x.fst < (↑(List.take (l.length - (1 : Nat)) (List.drop (1 : Nat) l)).length : Int)) ∧ (sm x.snd.fst ∧ sm ((List.take (l.length - (1 : Nat)) (List.drop (1 : Nat) l)).getD
  x.fst.toNat []) ∧ x.snd.fst.length ≤ ((List.take (l.length - (1 : Nat)) (List.drop (1 : Nat) l)).getD x.fst.toNat []).length ∧ ((58 : Nat) = (58 : Nat) ∨ (58 : Nat) = (57 : Nat)
  ∨ (58 : Nat) = (49 : Nat))) ∧ (sm x.snd.snd ∧ sm ((List.take (l.length - (1 : Nat)) (List.drop (1 : Nat) l)).getD x.fst.toNat []) ∧ x.snd.snd.length ≤ ((List.take (l.length - (1
  : Nat)) (List.drop (1 : Nat) l)).getD x.fst.toNat []).length ∧ ((57 : Nat) = (58 : Nat) ∨ (57 : Nat) = (57 : Nat) ∨ (57 : Nat) = (49 : Nat))) ∧ isI64 (x.fst + (1 : Int)) ∧ I
  (x.fst + (1 : Int), zipS x.snd.fst ((List.take (l.length - (1 : Nat)) (List.drop (1 : Nat) l)).getD x.fst.toNat []) (58 : Nat), zipS x.snd.snd ((List.take (l.length - (1 : Nat))
  (List.drop (1 : Nat) l)).getD x.fst.toNat []) (57 : Nat)) ∧ μ (x.fst + (1 : Int), zipS x.snd.fst ((List.take (l.length - (1 : Nat)) (List.drop (1 : Nat) l)).getD x.fst.toNat [])
  (58 : Nat), zipS x.snd.snd ((List.take (l.length - (1 : Nat)) (List.drop (1 : Nat) l)).getD x.fst.toNat []) (57 : Nat)) < μ x) ∧ (decide (x.fst < (↑(List.take (l.length - (1 :
  Nat)) (List.drop (1 : Nat) l)).length : Int)) = false → ((x.snd.fst, x.snd.snd, ()), (0 : Int)) = ofS l))) ∧ ((!bvec (l.getD x.toNat [])) = false → ((0 : Int) ≤ (0 : Int) ∧ (0 :
  Int) < (↑l.length : Int)) ∧ ((!decide ((↑(l.getD x.toNat []).length : Int) = (↑(l.getD (0 : Nat) []).length : Int))) = true → (decide ((0 : Int) ≤ x) = true → (([], [], ()), (1 :
  Int)) = ofS l) ∧ (decide ((0 : Int) ≤ x) = false → ((0 : Int) ≤ (0 : Int) ∧ (0 : Int) < (↑l.length : Int)) ∧ (l.getD (0 : Nat) []).length ≤ (1000000 : Nat) ∧ ((0 : Int) ≤ (0 :
  Int) ∧ (0 : Int) < (↑l.length : Int)) ∧ (l.getD (0 : Nat) []).length ≤ (1000000 : Nat) ∧ ((0 : Int) ≤ (1 : Int) ∧ (1 : Int) ≤ (↑l.length : Int)) ∧ ∃ (I : Int × List Int × List
  Int → Prop), ∃ (μ : Int × List Int × List Int → Nat), I ((0 : Int), l.getD (0 : Nat) [], l.getD (0 : Nat) []) ∧ ∀ (x : Int × List Int × List Int), I x → (decide (x.fst <
  (↑(List.take (l.length - (1 : Nat)) (List.drop (1 : Nat) l)).length : Int)) = true → ((0 : Int) ≤ x.fst ∧ x.fst < (↑(List.take (l.length - (1 : Nat)) (List.drop (1 : Nat)
  l)).length : Int)) ∧ (sm x.snd.fst ∧ sm ((List.take (l.length - (1 : Nat)) (List.drop (1 : Nat) l)).getD x.fst.toNat []) ∧ x.snd.fst.length ≤ ((List.take (l.length - (1 : Nat))
  (List.drop (1 : Nat) l)).getD x.fst.toNat []).length ∧ ((58 : Nat) = (58 : Nat) ∨ (58 : Nat) = (57 : Nat) ∨ (58 : Nat) = (49 : Nat))) ∧ (sm x.snd.snd ∧ sm ((List.take (l.length -
  (1 : Nat)) (List.drop (1 : Nat) l)).getD x.fst.toNat []) ∧ x.snd.snd.length ≤ ((List.take (l.length - (1 : Nat)) (List.drop (1 : Nat) l)).getD x.fst.toNat []).length ∧ ((57 :
  Nat) = (58 : Nat) ∨ (57 : Nat) = (57 : Nat) ∨ (57 : Nat) = (49 : Nat))) ∧ isI64 (x.fst + (1 : Int)) ∧ I (x.fst + (1 : Int), zipS x.snd.fst ((List.take (l.length - (1 : Nat))
  (List.drop (1 : Nat) l)).getD x.fst.toNat []) (58 : Nat), zipS x.snd.snd ((List.take (l.length - (1 : Nat)) (List.drop (1 : Nat) l)).getD x.fst.toNat []) (57 : Nat)) ∧ μ (x.fst +
  (1 : Int), zipS x.snd.fst ((List.take (l.length - (1 : Nat)) (List.drop (1 : Nat) l)).getD x.fst.toNat []) (58 : Nat), zipS x.snd.snd ((List.take (l.length - (1 : Nat))
  (List.drop (1 : Nat) l)).getD x.fst.toNat []) (57 : Nat)) < μ x) ∧ (decide (x.fst < (↑(List.take (l.length - (1 : Nat)) (List.drop (1 : Nat) l)).length : Int)) = false →
  ((x.snd.fst, x.snd.snd, ()), (0 : Int)) = ofS l))) ∧ ((!decide ((↑(l.getD x.toNat []).length : Int) = (↑(l.getD (0 : Nat) []).length : Int))) = false → isI64 (x + (1 : Int)) ∧ I
  (x + (1 : Int)) ∧ μ (x + (1 : Int)) < μ x))) ∧ (decide (x < (↑l.length : Int)) = false → (false = true → (([], [], ()), (1 : Int)) = ofS l) ∧ (false = false → ((0 : Int) ≤ (0 :
  Int) ∧ (0 : Int) < (↑l.length : Int)) ∧ (l.getD (0 : Nat) []).length ≤ (1000000 : Nat) ∧ ((0 : Int) ≤ (0 : Int) ∧ (0 : Int) < (↑l.length : Int)) ∧ (l.getD (0 : Nat) []).length ≤
  (1000000 : Nat) ∧ ((0 : Int) ≤ (1 : Int) ∧ (1 : Int) ≤ (↑l.length : Int)) ∧ ∃ (I : Int × List Int × List Int → Prop), ∃ (μ : Int × List Int × List Int → Nat), I ((0 : Int),
  l.getD (0 : Nat) [], l.getD (0 : Nat) []) ∧ ∀ (x : Int × List Int × List Int), I x → (decide (x.fst < (↑(List.take (l.length - (1 : Nat)) (List.drop (1 : Nat) l)).length : Int))
  = true → ((0 : Int) ≤ x.fst ∧ x.fst < (↑(List.take (l.length - (1 : Nat)) (List.drop (1 : Nat) l)).length : Int)) ∧ (sm x.snd.fst ∧ sm ((List.take (l.length - (1 : Nat))
  (List.drop (1 : Nat) l)).getD x.fst.toNat []) ∧ x.snd.fst.length ≤ ((List.take (l.length - (1 : Nat)) (List.drop (1 : Nat) l)).getD x.fst.toNat []).length ∧ ((58 : Nat) = (58 :
  Nat) ∨ (58 : Nat) = (57 : Nat) ∨ (58 : Nat) = (49 : Nat))) ∧ (sm x.snd.snd ∧ sm ((List.take (l.length - (1 : Nat)) (List.drop (1 : Nat) l)).getD x.fst.toNat []) ∧
  x.snd.snd.length ≤ ((List.take (l.length - (1 : Nat)) (List.drop (1 : Nat) l)).getD x.fst.toNat []).length ∧ ((57 : Nat) = (58 : Nat) ∨ (57 : Nat) = (57 : Nat) ∨ (57 : Nat) = (49
  : Nat))) ∧ isI64 (x.fst + (1 : Int)) ∧ I (x.fst + (1 : Int), zipS x.snd.fst ((List.take (l.length - (1 : Nat)) (List.drop (1 : Nat) l)).getD x.fst.toNat []) (58 : Nat), zipS
  x.snd.snd ((List.take (l.length - (1 : Nat)) (List.drop (1 : Nat) l)).getD x.fst.toNat []) (57 : Nat)) ∧ μ (x.fst + (1 : Int), zipS x.snd.fst ((List.take (l.length - (1 : Nat))
  (List.drop (1 : Nat) l)).getD x.fst.toNat []) (58 : Nat), zipS x.snd.snd ((List.take (l.length - (1 : Nat)) (List.drop (1 : Nat) l)).getD x.fst.toNat []) (57 : Nat)) < μ x) ∧
  (decide (x.fst < (↑(List.take (l.length - (1 : Nat)) (List.drop (1 : Nat) l)).length : Int)) = false → ((x.snd.fst, x.snd.snd, ()), (0 : Int)) = ofS l))))) := by kernel_rfl
theorem join_nf (a b : Box) : fnwp B3 6 35 joinSp (a, b) = (True ∧ ((!balike a b) = true → (([], [], ()), (1 : Int)) = joinS a b) ∧ ((!balike a b) = false → (sm a.fst ∧ sm b.fst ∧
  a.fst.length ≤ b.fst.length ∧ ((58 : Nat) = (58 : Nat) ∨ (58 : Nat) = (57 : Nat) ∨ (58 : Nat) = (49 : Nat))) ∧ (sm a.snd.fst ∧ sm b.snd.fst ∧ a.snd.fst.length ≤ b.snd.fst.length
  ∧ ((57 : Nat) = (58 : Nat) ∨ (57 : Nat) = (57 : Nat) ∨ (57 : Nat) = (49 : Nat))) ∧ ((zipS a.fst b.fst (58 : Nat), zipS a.snd.fst b.snd.fst (57 : Nat), ()), (0 : Int)) = joinS a
  b)) := by kernel_rfl
theorem rJoin_nf (a b : Box) : fnwp B3 6 37 rJoinSp (a, b) = (True ∧ ((!balike a b) = true → (([], [], ()), false, (1 : Int), ()) = ((joinS a b).fst, balike a b, (joinS a b).snd,
  ())) ∧ ((!balike a b) = false → True ∧ (((ofS [a.fst, a.snd.fst, b.fst, b.snd.fst]).fst.fst, (ofS [a.fst, a.snd.fst, b.fst, b.snd.fst]).fst.snd.fst, ()), ofOk [a.fst, a.snd.fst,
  b.fst, b.snd.fst], (ofS [a.fst, a.snd.fst, b.fst, b.snd.fst]).snd, ()) = ((joinS a b).fst, balike a b, (joinS a b).snd, ()))) := by kernel_rfl
theorem meet_nf (a b : Box) : fnwp B3 6 29 meetSp (a, b) = (True ∧ ((!balike a b) = true → (([], [], ()), false, (1 : Int)) = meetS a b) ∧ ((!balike a b) = false → (sm a.fst ∧ sm
  b.fst ∧ a.fst.length ≤ b.fst.length ∧ ((57 : Nat) = (58 : Nat) ∨ (57 : Nat) = (57 : Nat) ∨ (57 : Nat) = (49 : Nat))) ∧ (sm a.snd.fst ∧ sm b.snd.fst ∧ a.snd.fst.length ≤
  b.snd.fst.length ∧ ((58 : Nat) = (58 : Nat) ∨ (58 : Nat) = (57 : Nat) ∨ (58 : Nat) = (49 : Nat))) ∧ True ∧ ((!bval (zipS a.fst b.fst (57 : Nat), zipS a.snd.fst b.snd.fst (58 :
  Nat), ())) = true → (([], [], ()), false, (0 : Int)) = meetS a b) ∧ ((!bval (zipS a.fst b.fst (57 : Nat), zipS a.snd.fst b.snd.fst (58 : Nat), ())) = false → ((zipS a.fst b.fst
  (57 : Nat), zipS a.snd.fst b.snd.fst (58 : Nat), ()), true, (0 : Int)) = meetS a b))) := by kernel_rfl
theorem rMeet_nf (a b : Box) : fnwp B3 6 38 rMeetSp (a, b) = (True ∧ ((!balike a b) = true → (([], [], ()), false, (1 : Int), ()) = ((meetS a b).fst, (meetS a b).snd.fst, (meetS a
  b).snd.snd, ())) ∧ ((!balike a b) = false → ∃ (I : List Int × List Int × Int → Prop), ∃ (μ : List Int × List Int × Int → Nat), I ([], [], (0 : Int)) ∧ ∀ (x : List Int × List Int
  × Int), I x → (decide (x.snd.snd < (↑a.fst.length : Int)) = true → ((0 : Int) ≤ x.snd.snd ∧ x.snd.snd < (↑a.fst.length : Int)) ∧ ((0 : Int) ≤ x.snd.snd ∧ x.snd.snd <
  (↑b.fst.length : Int)) ∧ ((0 : Int) ≤ x.snd.snd ∧ x.snd.snd < (↑a.snd.fst.length : Int)) ∧ ((0 : Int) ≤ x.snd.snd ∧ x.snd.snd < (↑b.snd.fst.length : Int)) ∧ (decide (min
  (a.snd.fst.getD x.snd.snd.toNat (0 : Int)) (b.snd.fst.getD x.snd.snd.toNat (0 : Int)) < max (a.fst.getD x.snd.snd.toNat (0 : Int)) (b.fst.getD x.snd.snd.toNat (0 : Int))) = true
  → (([], [], ()), false, (0 : Int), ()) = ((meetS a b).fst, (meetS a b).snd.fst, (meetS a b).snd.snd, ())) ∧ (decide (min (a.snd.fst.getD x.snd.snd.toNat (0 : Int))
  (b.snd.fst.getD x.snd.snd.toNat (0 : Int)) < max (a.fst.getD x.snd.snd.toNat (0 : Int)) (b.fst.getD x.snd.snd.toNat (0 : Int))) = false → roomP B3 (3 : Nat) (x.fst.length + [max
  (a.fst.getD x.snd.snd.toNat (0 : Int)) (b.fst.getD x.snd.snd.toNat (0 : Int))].length) ∧ roomP B3 (3 : Nat) (x.snd.fst.length + [min (a.snd.fst.getD x.snd.snd.toNat (0 : Int))
  (b.snd.fst.getD x.snd.snd.toNat (0 : Int))].length) ∧ isI64 (x.snd.snd + (1 : Int)) ∧ I (x.fst ++ [max (a.fst.getD x.snd.snd.toNat (0 : Int)) (b.fst.getD x.snd.snd.toNat (0 :
  Int))], x.snd.fst ++ [min (a.snd.fst.getD x.snd.snd.toNat (0 : Int)) (b.snd.fst.getD x.snd.snd.toNat (0 : Int))], x.snd.snd + (1 : Int)) ∧ μ (x.fst ++ [max (a.fst.getD
  x.snd.snd.toNat (0 : Int)) (b.fst.getD x.snd.snd.toNat (0 : Int))], x.snd.fst ++ [min (a.snd.fst.getD x.snd.snd.toNat (0 : Int)) (b.snd.fst.getD x.snd.snd.toNat (0 : Int))],
  x.snd.snd + (1 : Int)) < μ x)) ∧ (decide (x.snd.snd < (↑a.fst.length : Int)) = false → ((x.fst, x.snd.fst, ()), true, (0 : Int), ()) = ((meetS a b).fst, (meetS a b).snd.fst,
  (meetS a b).snd.snd, ())))) := by kernel_rfl
theorem ins_nf (a b : Box) : fnwp B3 6 32 binsSp (a, b) = (True ∧ (bval a = true → True ∧ (bhas b a.fst = true → True ∧ bhas b a.snd.fst = binside a b) ∧ (bhas b a.fst = false →
  false = binside a b)) ∧ (bval a = false → false = binside a b)) := by kernel_rfl
theorem rIns_nf (a b : Box) : fnwp B3 6 40 binsSp (a, b) = (True ∧ (bval a = true → True ∧ (bval b = true → True ∧ (bhas b a.fst = true → True ∧ bhas b a.snd.fst = binside a b) ∧
  (bhas b a.fst = false → false = binside a b)) ∧ (bval b = false → false = binside a b)) ∧ (bval a = false → false = binside a b)) := by kernel_rfl
theorem sameB_nf (a b : Box) : fnwp B3 6 21 sameBSp (a, b) = (True ∧ (decide (a.fst = b.fst) = true → True ∧ decide (a.snd.fst = b.snd.fst) = decide (a = b)) ∧ (decide (a.fst =
  b.fst) = false → false = decide (a = b))) := by kernel_rfl
theorem few_nf (a : Box) : fnwp B3 6 9 fewSp a = ((decide ((↑a.fst.length : Int) ≤ (40 : Int)) = true → decide ((↑a.snd.fst.length : Int) ≤ (40 : Int)) = fewB a) ∧ (decide
  ((↑a.fst.length : Int) ≤ (40 : Int)) = false → false = fewB a)) := by kernel_rfl
end Go.Proofs.Ytdnofflnfchcbaa
