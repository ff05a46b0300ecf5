import Derived.Test.YtmimchmdikjilaaOi
namespace Go.Proofs.Ytmimchmdikjilaa
open Go.AM Go.PL
set_option linter.unusedVariables false
theorem l6_nf (p : Piece) (k : Int) (keys : List Int) (id : Int) : fnwp G1 6 8 (lawSp [PC, I, UL, U16]) (p, k, keys, id) = (True ∧ ((!fewP p) = true → True ∧ true = true) ∧ ((!fewP
  p) = false → True ∧ ((!validP p k) = true → True ∧ true = true) ∧ ((!validP p k) = false → ((roomP G1 (37 : Nat) p.fst.length ∧ isI64 ((1 : Int) + IntKind.i64.wrap id) ∧ (smallP
  p ∧ ((0 : Int) ≤ (1 : Int) + IntKind.i64.wrap id ∧ (1 : Int) + IntKind.i64.wrap id ≤ (1000000 : Int)) ∧ boundsL p.snd.fst) ∧ roomP G1 (37 : Nat) (p.fst.length + (fillP p ((1 :
  Int) + IntKind.i64.wrap id) keys).length) ∧ ((p.fst ++ fillP p ((1 : Int) + IntKind.i64.wrap id) keys).length ≤ (100000 : Nat) ∧ (0 : Int) ≤ k) ∧ ∃ (I : Int → Prop), ∃ (μ : Int →
  Nat), I (0 : Int) ∧ ∀ (x : Int), I x → (decide (x < (↑p.fst.length : Int)) = true → ((0 : Int) ≤ x ∧ x < (↑p.fst.length : Int)) ∧ (smallP p ∧ orderP p) ∧ (decide (x < sureP p k)
  = true → True ∧ ((!amongH ((p.fst.getD x.toNat ((0 : Int), (0 : Int), (0 : Int), ())).fst, (p.fst.getD x.toNat ((0 : Int), (0 : Int), (0 : Int), ())).snd.fst, (p.fst.getD x.toNat
  ((0 : Int), (0 : Int), (0 : Int), ())).snd.snd.fst, ()) (ofH (p.fst ++ fillP p ((1 : Int) + IntKind.i64.wrap id) keys) k)) = true → false = true) ∧ ((!amongH ((p.fst.getD x.toNat
  ((0 : Int), (0 : Int), (0 : Int), ())).fst, (p.fst.getD x.toNat ((0 : Int), (0 : Int), (0 : Int), ())).snd.fst, (p.fst.getD x.toNat ((0 : Int), (0 : Int), (0 : Int),
  ())).snd.snd.fst, ()) (ofH (p.fst ++ fillP p ((1 : Int) + IntKind.i64.wrap id) keys) k)) = false → isI64 (x + (1 : Int)) ∧ I (x + (1 : Int)) ∧ μ (x + (1 : Int)) < μ x)) ∧ (decide
  (x < sureP p k) = false → isI64 (x + (1 : Int)) ∧ I (x + (1 : Int)) ∧ μ (x + (1 : Int)) < μ x)) ∧ (decide (x < (↑p.fst.length : Int)) = false → True ∧ (true = true → p.fst.length
  ≤ (1000 : Nat) ∧ (smallP p ∧ orderP p) ∧ (decide (sureP p k ≤ commonH p.fst (ofH (p.fst ++ fillP p ((1 : Int) + IntKind.i64.wrap id) keys) k)) = true → (1 : Int) ≤ k ∧ ((!exactP
  p k) = true → true = true) ∧ ((!exactP p k) = false → True ∧ decide (ofH (p.fst ++ fillP p ((1 : Int) + IntKind.i64.wrap id) keys) k = p.fst) = true)) ∧ (decide (sureP p k ≤
  commonH p.fst (ofH (p.fst ++ fillP p ((1 : Int) + IntKind.i64.wrap id) keys) k)) = false → false = true)) ∧ (true = false → false = true))) ∧ isI64 ((1 : Int) + IntKind.i64.wrap
  id) ∧ roomP G1 (37 : Nat) p.fst.length ∧ (smallP p ∧ ((0 : Int) ≤ (1 : Int) + IntKind.i64.wrap id ∧ (1 : Int) + IntKind.i64.wrap id ≤ (1000000 : Int)) ∧ boundsL p.snd.fst) ∧
  roomP G1 (37 : Nat) (p.fst.length + (fillP p ((1 : Int) + IntKind.i64.wrap id) keys).length) ∧ ((p.fst ++ fillP p ((1 : Int) + IntKind.i64.wrap id) keys).length ≤ (100000 : Nat)
  ∧ (0 : Int) ≤ k) ∧ ∃ (I : Int → Prop), ∃ (μ : Int → Nat), I (0 : Int) ∧ ∀ (x : Int), I x → (decide (x < (↑p.fst.length : Int)) = true → ((0 : Int) ≤ x ∧ x < (↑p.fst.length :
  Int)) ∧ (smallP p ∧ orderP p) ∧ (decide (x < sureP p k) = true → True ∧ ((!amongH ((p.fst.getD x.toNat ((0 : Int), (0 : Int), (0 : Int), ())).fst, (p.fst.getD x.toNat ((0 : Int),
  (0 : Int), (0 : Int), ())).snd.fst, (p.fst.getD x.toNat ((0 : Int), (0 : Int), (0 : Int), ())).snd.snd.fst, ()) (ofH (p.fst ++ fillP p ((1 : Int) + IntKind.i64.wrap id) keys) k))
  = true → false = true) ∧ ((!amongH ((p.fst.getD x.toNat ((0 : Int), (0 : Int), (0 : Int), ())).fst, (p.fst.getD x.toNat ((0 : Int), (0 : Int), (0 : Int), ())).snd.fst,
  (p.fst.getD x.toNat ((0 : Int), (0 : Int), (0 : Int), ())).snd.snd.fst, ()) (ofH (p.fst ++ fillP p ((1 : Int) + IntKind.i64.wrap id) keys) k)) = false → isI64 (x + (1 : Int)) ∧ I
  (x + (1 : Int)) ∧ μ (x + (1 : Int)) < μ x)) ∧ (decide (x < sureP p k) = false → isI64 (x + (1 : Int)) ∧ I (x + (1 : Int)) ∧ μ (x + (1 : Int)) < μ x)) ∧ (decide (x <
  (↑p.fst.length : Int)) = false → True ∧ (true = true → p.fst.length ≤ (1000 : Nat) ∧ (smallP p ∧ orderP p) ∧ (decide (sureP p k ≤ commonH p.fst (ofH (p.fst ++ fillP p ((1 : Int)
  + IntKind.i64.wrap id) keys) k)) = true → (1 : Int) ≤ k ∧ ((!exactP p k) = true → true = true) ∧ ((!exactP p k) = false → True ∧ decide (ofH (p.fst ++ fillP p ((1 : Int) +
  IntKind.i64.wrap id) keys) k = p.fst) = true)) ∧ (decide (sureP p k ≤ commonH p.fst (ofH (p.fst ++ fillP p ((1 : Int) + IntKind.i64.wrap id) keys) k)) = false → false = true)) ∧
  (true = false → false = true))) ∧ isI64 ((1 : Int) + IntKind.i64.wrap id) ∧ roomP G1 (37 : Nat) p.fst.length ∧ (smallP p ∧ ((0 : Int) ≤ (1 : Int) + IntKind.i64.wrap id ∧ (1 :
  Int) + IntKind.i64.wrap id ≤ (1000000 : Int)) ∧ boundsL p.snd.fst) ∧ roomP G1 (37 : Nat) (p.fst.length + (fillP p ((1 : Int) + IntKind.i64.wrap id) keys).length) ∧ ((p.fst ++
  fillP p ((1 : Int) + IntKind.i64.wrap id) keys).length ≤ (100000 : Nat) ∧ (0 : Int) ≤ k) ∧ ∃ (I : Int → Prop), ∃ (μ : Int → Nat), I (0 : Int) ∧ ∀ (x : Int), I x → (decide (x <
  (↑p.fst.length : Int)) = true → ((0 : Int) ≤ x ∧ x < (↑p.fst.length : Int)) ∧ (smallP p ∧ orderP p) ∧ (decide (x < sureP p k) = true → True ∧ ((!amongH ((p.fst.getD x.toNat ((0 :
  Int), (0 : Int), (0 : Int), ())).fst, (p.fst.getD x.toNat ((0 : Int), (0 : Int), (0 : Int), ())).snd.fst, (p.fst.getD x.toNat ((0 : Int), (0 : Int), (0 : Int), ())).snd.snd.fst,
  ()) (ofH (p.fst ++ fillP p ((1 : Int) + IntKind.i64.wrap id) keys) k)) = true → false = true) ∧ ((!amongH ((p.fst.getD x.toNat ((0 : Int), (0 : Int), (0 : Int), ())).fst,
  (p.fst.getD x.toNat ((0 : Int), (0 : Int), (0 : Int), ())).snd.fst, (p.fst.getD x.toNat ((0 : Int), (0 : Int), (0 : Int), ())).snd.snd.fst, ()) (ofH (p.fst ++ fillP p ((1 : Int)
  + IntKind.i64.wrap id) keys) k)) = false → isI64 (x + (1 : Int)) ∧ I (x + (1 : Int)) ∧ μ (x + (1 : Int)) < μ x)) ∧ (decide (x < sureP p k) = false → isI64 (x + (1 : Int)) ∧ I (x
  + (1 : Int)) ∧ μ (x + (1 : Int)) < μ x)) ∧ (decide (x < (↑p.fst.length : Int)) = false → True ∧ (true = true → p.fst.length ≤ (1000 : Nat) ∧ (smallP p ∧ orderP p) ∧ (decide
  (sureP p k ≤ commonH p.fst (ofH (p.fst ++ fillP p ((1 : Int) + IntKind.i64.wrap id) keys) k)) = true → (1 : Int) ≤ k ∧ ((!exactP p k) = true → true = true) ∧ ((!exactP p k) =
  false → True ∧ decide (ofH (p.fst ++ fillP p ((1 : Int) + IntKind.i64.wrap id) keys) k = p.fst) = true)) ∧ (decide (sureP p k ≤ commonH p.fst (ofH (p.fst ++ fillP p ((1 : Int) +
  IntKind.i64.wrap id) keys) k)) = false → false = true)) ∧ (true = false → false = true))))) := by kernel_rfl
end Go.Proofs.Ytmimchmdikjilaa
