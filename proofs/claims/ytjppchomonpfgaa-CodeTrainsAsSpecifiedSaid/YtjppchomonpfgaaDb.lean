import Derived.Test.YtjppchomonpfgaaDa
namespace Go.Proofs.Ytjppchomonpfgaa
open Go.AM Go.PL
set_option linter.unusedVariables false
theorem train_nf (l : List (List Int)) (c : List Int) (w : Int) : fnwp E1 7 31 trainSp (l, c, w) = (True ∧ ((!alikeL l) = true → (((0 : Int), [], [], ()), (1 : Int)) = trainBk l c
  w) ∧ ((!alikeL l) = false → (decide (w < (1 : Int)) = true → (((0 : Int), [], [], ()), (1 : Int)) = trainBk l c w) ∧ (decide (w < (1 : Int)) = false → (decide ((4096 : Int) <
  (↑l.length : Int)) = true → (((0 : Int), [], [], ()), (2 : Int)) = trainBk l c w) ∧ (decide ((4096 : Int) < (↑l.length : Int)) = false → (decide ((256 : Int) < w) = true → (((0 :
  Int), [], [], ()), (2 : Int)) = trainBk l c w) ∧ (decide ((256 : Int) < w) = false → ((0 : Int) ≤ (0 : Int) ∧ (0 : Int) < (↑l.length : Int)) ∧ True ∧ ((!cutB c (↑(l.getD (0 :
  Nat) []).length : Int)) = true → (((0 : Int), [], [], ()), (80 : Int)) = trainBk l c w) ∧ ((!cutB c (↑(l.getD (0 : Nat) []).length : Int)) = false → ((0 : Int) ≤ (0 : Int) ∧ (0 :
  Int) < (↑l.length : Int)) ∧ c.length ≤ (1000000 : Nat) ∧ ∃ (I : Int × Int × List Int × List (List (List Int)) → Prop), ∃ (μ : Int × Int × List Int × List (List (List Int)) →
  Nat), I ((0 : Int), (↑(l.getD (0 : Nat) []).length : Int), c, []) ∧ ∀ (x : Int × Int × List Int × List (List (List Int))), I x → (decide (x.fst < (↑c.length : Int)) = true → ((0
  : Int) ≤ x.fst ∧ x.fst < (↑c.length : Int)) ∧ isI64 (x.fst + (1 : Int)) ∧ (decide (x.fst + (1 : Int) < (↑c.length : Int)) = true → isI64 (x.fst + (1 : Int)) ∧ ((0 : Int) ≤ x.fst
  + (1 : Int) ∧ x.fst + (1 : Int) < (↑c.length : Int)) ∧ (trnP l (c.getD x.fst.toNat (0 : Int)) (c.getD (x.fst + (1 : Int)).toNat (0 : Int)) w ∧ roomP E1 (39 : Nat)
  (x.snd.snd.snd.length + [trainS l (c.getD x.fst.toNat (0 : Int)) (c.getD (x.fst + (1 : Int)).toNat (0 : Int)) w.toNat].length) ∧ isI64 (x.fst + (1 : Int)) ∧ I (x.fst + (1 : Int),
  x.snd.fst, x.snd.snd.fst, x.snd.snd.snd ++ [trainS l (c.getD x.fst.toNat (0 : Int)) (c.getD (x.fst + (1 : Int)).toNat (0 : Int)) w.toNat]) ∧ μ (x.fst + (1 : Int), x.snd.fst,
  x.snd.snd.fst, x.snd.snd.snd ++ [trainS l (c.getD x.fst.toNat (0 : Int)) (c.getD (x.fst + (1 : Int)).toNat (0 : Int)) w.toNat]) < μ x) ∧ (trnP l (c.getD x.fst.toNat (0 : Int))
  (c.getD (x.fst + (1 : Int)).toNat (0 : Int)) w ∧ roomP E1 (39 : Nat) (x.snd.snd.snd.length + [trainS l (c.getD x.fst.toNat (0 : Int)) (c.getD (x.fst + (1 : Int)).toNat (0 : Int))
  w.toNat].length) ∧ isI64 (x.fst + (1 : Int)) ∧ I (x.fst + (1 : Int), x.snd.fst, x.snd.snd.fst, x.snd.snd.snd ++ [trainS l (c.getD x.fst.toNat (0 : Int)) (c.getD (x.fst + (1 :
  Int)).toNat (0 : Int)) w.toNat]) ∧ μ (x.fst + (1 : Int), x.snd.fst, x.snd.snd.fst, x.snd.snd.snd ++ [trainS l (c.getD x.fst.toNat (0 : Int)) (c.getD (x.fst + (1 : Int)).toNat (0
  : Int)) w.toNat]) < μ x) ∧ trnP l (c.getD x.fst.toNat (0 : Int)) (c.getD (x.fst + (1 : Int)).toNat (0 : Int)) w ∧ (roomP E1 (39 : Nat) (x.snd.snd.snd.length + [trainS l (c.getD
  x.fst.toNat (0 : Int)) (c.getD (x.fst + (1 : Int)).toNat (0 : Int)) w.toNat].length) ∧ isI64 (x.fst + (1 : Int)) ∧ I (x.fst + (1 : Int), x.snd.fst, x.snd.snd.fst, x.snd.snd.snd
  ++ [trainS l (c.getD x.fst.toNat (0 : Int)) (c.getD (x.fst + (1 : Int)).toNat (0 : Int)) w.toNat]) ∧ μ (x.fst + (1 : Int), x.snd.fst, x.snd.snd.fst, x.snd.snd.snd ++ [trainS l
  (c.getD x.fst.toNat (0 : Int)) (c.getD (x.fst + (1 : Int)).toNat (0 : Int)) w.toNat]) < μ x) ∧ roomP E1 (39 : Nat) (x.snd.snd.snd.length + [trainS l (c.getD x.fst.toNat (0 :
  Int)) (c.getD (x.fst + (1 : Int)).toNat (0 : Int)) w.toNat].length) ∧ isI64 (x.fst + (1 : Int)) ∧ I (x.fst + (1 : Int), x.snd.fst, x.snd.snd.fst, x.snd.snd.snd ++ [trainS l
  (c.getD x.fst.toNat (0 : Int)) (c.getD (x.fst + (1 : Int)).toNat (0 : Int)) w.toNat]) ∧ μ (x.fst + (1 : Int), x.snd.fst, x.snd.snd.fst, x.snd.snd.snd ++ [trainS l (c.getD
  x.fst.toNat (0 : Int)) (c.getD (x.fst + (1 : Int)).toNat (0 : Int)) w.toNat]) < μ x) ∧ (decide (x.fst + (1 : Int) < (↑c.length : Int)) = false → (trnP l (c.getD x.fst.toNat (0 :
  Int)) (↑(l.getD (0 : Nat) []).length : Int) w ∧ roomP E1 (39 : Nat) (x.snd.snd.snd.length + [trainS l (c.getD x.fst.toNat (0 : Int)) (↑(l.getD (0 : Nat) []).length : Int)
  w.toNat].length) ∧ isI64 (x.fst + (1 : Int)) ∧ I (x.fst + (1 : Int), x.snd.fst, x.snd.snd.fst, x.snd.snd.snd ++ [trainS l (c.getD x.fst.toNat (0 : Int)) (↑(l.getD (0 : Nat)
  []).length : Int) w.toNat]) ∧ μ (x.fst + (1 : Int), x.snd.fst, x.snd.snd.fst, x.snd.snd.snd ++ [trainS l (c.getD x.fst.toNat (0 : Int)) (↑(l.getD (0 : Nat) []).length : Int)
  w.toNat]) < μ x) ∧ (trnP l (c.getD x.fst.toNat (0 : Int)) (↑(l.getD (0 : Nat) []).length : Int) w ∧ roomP E1 (39 : Nat) (x.snd.snd.snd.length + [trainS l (c.getD x.fst.toNat (0 :
  Int)) (↑(l.getD (0 : Nat) []).length : Int) w.toNat].length) ∧ isI64 (x.fst + (1 : Int)) ∧ I (x.fst + (1 : Int), x.snd.fst, x.snd.snd.fst, x.snd.snd.snd ++ [trainS l (c.getD
  x.fst.toNat (0 : Int)) (↑(l.getD (0 : Nat) []).length : Int) w.toNat]) ∧ μ (x.fst + (1 : Int), x.snd.fst, x.snd.snd.fst, x.snd.snd.snd ++ [trainS l (c.getD x.fst.toNat (0 : Int))
  (↑(l.getD (0 : Nat) []).length : Int) w.toNat]) < μ x) ∧ trnP l (c.getD x.fst.toNat (0 : Int)) (↑(l.getD (0 : Nat) []).length : Int) w ∧ (roomP E1 (39 : Nat)
  (x.snd.snd.snd.length + [trainS l (c.getD x.fst.toNat (0 : Int)) (↑(l.getD (0 : Nat) []).length : Int) w.toNat].length) ∧ isI64 (x.fst + (1 : Int)) ∧ I (x.fst + (1 : Int),
  x.snd.fst, x.snd.snd.fst, x.snd.snd.snd ++ [trainS l (c.getD x.fst.toNat (0 : Int)) (↑(l.getD (0 : Nat) []).length : Int) w.toNat]) ∧ μ (x.fst + (1 : Int), x.snd.fst,
  x.snd.snd.fst, x.snd.snd.snd ++ [trainS l (c.getD x.fst.toNat (0 : Int)) (↑(l.getD (0 : Nat) []).length : Int) w.toNat]) < μ x) ∧ roomP E1 (39 : Nat) (x.snd.snd.snd.length +
  [trainS l (c.getD x.fst.toNat (0 : Int)) (↑(l.getD (0 : Nat) []).length : Int) w.toNat].length) ∧ isI64 (x.fst + (1 : Int)) ∧ I (x.fst + (1 : Int), x.snd.fst, x.snd.snd.fst,
  x.snd.snd.snd ++ [trainS l (c.getD x.fst.toNat (0 : Int)) (↑(l.getD (0 : Nat) []).length : Int) w.toNat]) ∧ μ (x.fst + (1 : Int), x.snd.fst, x.snd.snd.fst, x.snd.snd.snd ++
  [trainS l (c.getD x.fst.toNat (0 : Int)) (↑(l.getD (0 : Nat) []).length : Int) w.toNat]) < μ x)) ∧ (decide (x.fst < (↑c.length : Int)) = false → ((x.snd.fst, x.snd.snd.fst,
  x.snd.snd.snd, ()), (0 : Int)) = trainBk l c w))))))) := by kernel_rfl
end Go.Proofs.Ytjppchomonpfgaa
