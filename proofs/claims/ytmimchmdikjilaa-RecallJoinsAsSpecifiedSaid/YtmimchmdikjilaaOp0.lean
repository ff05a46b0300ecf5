import Derived.Test.YtmimchmdikjilaaOi
namespace Go.Proofs.Ytmimchmdikjilaa
open Go.AM Go.PL
set_option linter.unusedVariables false
theorem l2_nf (a b : Piece) (k : Int) : fnwp G1 6 4 (lawSp [PC, PC, I]) (a, b, k) = (True ∧ ((!fewP a) = true → True ∧ true = true) ∧ ((!fewP a) = false → True ∧ ((!fewP b) = true
  → True ∧ true = true) ∧ ((!fewP b) = false → True ∧ ((!validP a k) = true → True ∧ true = true) ∧ ((!validP a k) = false → True ∧ ((!validP b k) = true → True ∧ true = true) ∧
  ((!validP b k) = false → ((a.fst.length + b.fst.length ≤ (1000 : Nat) ∧ (0 : Int) ≤ k) ∧ a.snd.fst.length + b.snd.fst.length ≤ (1000 : Nat)) ∧ ((a.fst.length + b.fst.length ≤
  (1000 : Nat) ∧ (0 : Int) ≤ k) ∧ a.snd.fst.length + b.snd.fst.length ≤ (1000 : Nat)) ∧ True ∧ ((!sameP (ofH (a.fst ++ b.fst) k, sortR (a.snd.fst ++ b.snd.fst), ()) (ofH (a.fst ++
  b.fst) k, List.foldl putR a.snd.fst b.snd.fst, ())) = true → false = true) ∧ ((!sameP (ofH (a.fst ++ b.fst) k, sortR (a.snd.fst ++ b.snd.fst), ()) (ofH (a.fst ++ b.fst) k,
  List.foldl putR a.snd.fst b.snd.fst, ())) = false → ((b.fst.length + a.fst.length ≤ (1000 : Nat) ∧ (0 : Int) ≤ k) ∧ b.snd.fst.length + a.snd.fst.length ≤ (1000 : Nat)) ∧ True ∧
  ((!sameP (ofH (a.fst ++ b.fst) k, sortR (a.snd.fst ++ b.snd.fst), ()) (ofH (b.fst ++ a.fst) k, sortR (b.snd.fst ++ a.snd.fst), ())) = true → false = true) ∧ ((!sameP (ofH (a.fst
  ++ b.fst) k, sortR (a.snd.fst ++ b.snd.fst), ()) (ofH (b.fst ++ a.fst) k, sortR (b.snd.fst ++ a.snd.fst), ())) = false → True ∧ ((!validP (ofH (a.fst ++ b.fst) k, sortR
  (a.snd.fst ++ b.snd.fst), ()) k) = true → false = true) ∧ ((!validP (ofH (a.fst ++ b.fst) k, sortR (a.snd.fst ++ b.snd.fst), ()) k) = false → (1 : Int) ≤ k ∧ (exactP a k = true →
  (1 : Int) ≤ k ∧ (exactP b k = true → (1 : Int) ≤ k ∧ ((!exactP (ofH (a.fst ++ b.fst) k, sortR (a.snd.fst ++ b.snd.fst), ()) k) = true → false = true) ∧ ((!exactP (ofH (a.fst ++
  b.fst) k, sortR (a.snd.fst ++ b.snd.fst), ()) k) = false → ∃ (I : Int × List (Int × Int × Int × PUnit) × List (Int × Int × PUnit) → Prop), ∃ (μ : Int × List (Int × Int × Int ×
  PUnit) × List (Int × Int × PUnit) → Nat), I ((0 : Int), ofH (a.fst ++ b.fst) k, sortR (a.snd.fst ++ b.snd.fst)) ∧ ∀ (x : Int × List (Int × Int × Int × PUnit) × List (Int × Int ×
  PUnit)), I x → (smallP (x.snd.fst, x.snd.snd, ()) ∧ orderP (x.snd.fst, x.snd.snd, ())) ∧ (decide (x.fst < sureP (x.snd.fst, x.snd.snd, ()) k) = true → ((0 : Int) ≤ x.fst ∧ x.fst
  < (↑x.snd.fst.length : Int)) ∧ (smallP a ∧ orderP a) ∧ ((0 : Int) ≤ (0 : Int) ∧ (0 : Int) ≤ sureP a k ∧ sureP a k ≤ (↑a.fst.length : Int)) ∧ True ∧ ((!amongH (x.snd.fst.getD
  x.fst.toNat ((0 : Int), (0 : Int), (0 : Int), ())) (List.take ((sureP a k).toNat - (0 : Nat)) (List.drop (0 : Nat) a.fst))) = true → ((0 : Int) ≤ x.fst ∧ x.fst <
  (↑x.snd.fst.length : Int)) ∧ (smallP b ∧ orderP b) ∧ ((0 : Int) ≤ (0 : Int) ∧ (0 : Int) ≤ sureP b k ∧ sureP b k ≤ (↑b.fst.length : Int)) ∧ True ∧ ((!amongH (x.snd.fst.getD
  x.fst.toNat ((0 : Int), (0 : Int), (0 : Int), ())) (List.take ((sureP b k).toNat - (0 : Nat)) (List.drop (0 : Nat) b.fst))) = true → false = true) ∧ ((!amongH (x.snd.fst.getD
  x.fst.toNat ((0 : Int), (0 : Int), (0 : Int), ())) (List.take ((sureP b k).toNat - (0 : Nat)) (List.drop (0 : Nat) b.fst))) = false → isI64 (x.fst + (1 : Int)) ∧ I (x.fst + (1 :
  Int), x.snd.fst, x.snd.snd) ∧ μ (x.fst + (1 : Int), x.snd.fst, x.snd.snd) < μ x)) ∧ ((!amongH (x.snd.fst.getD x.fst.toNat ((0 : Int), (0 : Int), (0 : Int), ())) (List.take
  ((sureP a k).toNat - (0 : Nat)) (List.drop (0 : Nat) a.fst))) = false → isI64 (x.fst + (1 : Int)) ∧ I (x.fst + (1 : Int), x.snd.fst, x.snd.snd) ∧ μ (x.fst + (1 : Int), x.snd.fst,
  x.snd.snd) < μ x)) ∧ (decide (x.fst < sureP (x.snd.fst, x.snd.snd, ()) k) = false → True ∧ true = true))) ∧ (exactP b k = false → ∃ (I : Int × List (Int × Int × Int × PUnit) ×
  List (Int × Int × PUnit) → Prop), ∃ (μ : Int × List (Int × Int × Int × PUnit) × List (Int × Int × PUnit) → Nat), I ((0 : Int), ofH (a.fst ++ b.fst) k, sortR (a.snd.fst ++
  b.snd.fst)) ∧ ∀ (x : Int × List (Int × Int × Int × PUnit) × List (Int × Int × PUnit)), I x → (smallP (x.snd.fst, x.snd.snd, ()) ∧ orderP (x.snd.fst, x.snd.snd, ())) ∧ (decide
  (x.fst < sureP (x.snd.fst, x.snd.snd, ()) k) = true → ((0 : Int) ≤ x.fst ∧ x.fst < (↑x.snd.fst.length : Int)) ∧ (smallP a ∧ orderP a) ∧ ((0 : Int) ≤ (0 : Int) ∧ (0 : Int) ≤ sureP
  a k ∧ sureP a k ≤ (↑a.fst.length : Int)) ∧ True ∧ ((!amongH (x.snd.fst.getD x.fst.toNat ((0 : Int), (0 : Int), (0 : Int), ())) (List.take ((sureP a k).toNat - (0 : Nat))
  (List.drop (0 : Nat) a.fst))) = true → ((0 : Int) ≤ x.fst ∧ x.fst < (↑x.snd.fst.length : Int)) ∧ (smallP b ∧ orderP b) ∧ ((0 : Int) ≤ (0 : Int) ∧ (0 : Int) ≤ sureP b k ∧ sureP b
  k ≤ (↑b.fst.length : Int)) ∧ True ∧ ((!amongH (x.snd.fst.getD x.fst.toNat ((0 : Int), (0 : Int), (0 : Int), ())) (List.take ((sureP b k).toNat - (0 : Nat)) (List.drop (0 : Nat)
  b.fst))) = true → false = true) ∧ ((!amongH (x.snd.fst.getD x.fst.toNat ((0 : Int), (0 : Int), (0 : Int), ())) (List.take ((sureP b k).toNat - (0 : Nat)) (List.drop (0 : Nat)
  b.fst))) = false → isI64 (x.fst + (1 : Int)) ∧ I (x.fst + (1 : Int), x.snd.fst, x.snd.snd) ∧ μ (x.fst + (1 : Int), x.snd.fst, x.snd.snd) < μ x)) ∧ ((!amongH (x.snd.fst.getD
  x.fst.toNat ((0 : Int), (0 : Int), (0 : Int), ())) (List.take ((sureP a k).toNat - (0 : Nat)) (List.drop (0 : Nat) a.fst))) = false → isI64 (x.fst + (1 : Int)) ∧ I (x.fst + (1 :
  Int), x.snd.fst, x.snd.snd) ∧ μ (x.fst + (1 : Int), x.snd.fst, x.snd.snd) < μ x)) ∧ (decide (x.fst < sureP (x.snd.fst, x.snd.snd, ()) k) = false → True ∧ true = true))) ∧ (exactP
  a k = false → ∃ (I : Int × List (Int × Int × Int × PUnit) × List (Int × Int × PUnit) → Prop), ∃ (μ : Int × List (Int × Int × Int × PUnit) × List (Int × Int × PUnit) → Nat), I ((0
  : Int), ofH (a.fst ++ b.fst) k, sortR (a.snd.fst ++ b.snd.fst)) ∧ ∀ (x : Int × List (Int × Int × Int × PUnit) × List (Int × Int × PUnit)), I x → (smallP (x.snd.fst, x.snd.snd,
  ()) ∧ orderP (x.snd.fst, x.snd.snd, ())) ∧ (decide (x.fst < sureP (x.snd.fst, x.snd.snd, ()) k) = true → ((0 : Int) ≤ x.fst ∧ x.fst < (↑x.snd.fst.length : Int)) ∧ (smallP a ∧
  orderP a) ∧ ((0 : Int) ≤ (0 : Int) ∧ (0 : Int) ≤ sureP a k ∧ sureP a k ≤ (↑a.fst.length : Int)) ∧ True ∧ ((!amongH (x.snd.fst.getD x.fst.toNat ((0 : Int), (0 : Int), (0 : Int),
  ())) (List.take ((sureP a k).toNat - (0 : Nat)) (List.drop (0 : Nat) a.fst))) = true → ((0 : Int) ≤ x.fst ∧ x.fst < (↑x.snd.fst.length : Int)) ∧ (smallP b ∧ orderP b) ∧ ((0 :
  Int) ≤ (0 : Int) ∧ (0 : Int) ≤ sureP b k ∧ sureP b k ≤ (↑b.fst.length : Int)) ∧ True ∧ ((!amongH (x.snd.fst.getD x.fst.toNat ((0 : Int), (0 : Int), (0 : Int), ())) (List.take
  ((sureP b k).toNat - (0 : Nat)) (List.drop (0 : Nat) b.fst))) = true → false = true) ∧ ((!amongH (x.snd.fst.getD x.fst.toNat ((0 : Int), (0 : Int), (0 : Int), ())) (List.take
  ((sureP b k).toNat - (0 : Nat)) (List.drop (0 : Nat) b.fst))) = false → isI64 (x.fst + (1 : Int)) ∧ I (x.fst + (1 : Int), x.snd.fst, x.snd.snd) ∧ μ (x.fst + (1 : Int), x.snd.fst,
  x.snd.snd) < μ x)) ∧ ((!amongH (x.snd.fst.getD x.fst.toNat ((0 : Int), (0 : Int), (0 : Int), ())) (List.take ((sureP a k).toNat - (0 : Nat)) (List.drop (0 : Nat) a.fst))) = false
  → isI64 (x.fst + (1 : Int)) ∧ I (x.fst + (1 : Int), x.snd.fst, x.snd.snd) ∧ μ (x.fst + (1 : Int), x.snd.fst, x.snd.snd) < μ x)) ∧ (decide (x.fst < sureP (x.snd.fst, x.snd.snd,
  ()) k) = false → True ∧ true = true)))))))))) := by kernel_rfl
end Go.Proofs.Ytmimchmdikjilaa
