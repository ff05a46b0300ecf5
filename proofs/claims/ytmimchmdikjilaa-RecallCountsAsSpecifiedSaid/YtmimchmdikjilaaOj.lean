import Derived.Test.YtmimchmdikjilaaOi
namespace Go.Proofs.Ytmimchmdikjilaa
open Go.AM Go.PL
set_option linter.unusedVariables false
theorem l1_nf (p : Piece) (k want : Int) : fnwp G1 6 3 (lawSp [PC, I, I]) (p, k, want) = (True ∧ ((!fewP p) = true → True ∧ true = true) ∧ ((!fewP p) = false → True ∧ True ∧
  ((validP p k != validP p k) = true → false = true) ∧ ((validP p k != validP p k) = false → ((!validP p k) = true → True ∧ true = true) ∧ ((!validP p k) = false → True ∧ true =
  true ∧ (smallP p ∧ orderP p) ∧ (smallP p ∧ orderP p) ∧ decide (sureP p k = sureP p k) = true ∧ (1 : Int) ≤ k ∧ (1 : Int) ≤ k ∧ (exactP p k == exactP p k) = true ∧ True ∧ True ∧
  decide (leastP p = leastP p) = true ∧ (smallP p ∧ orderP p) ∧ (smallP p ∧ orderP p) ∧ decide (needP p k want = needP p k want) = true)))) := by kernel_rfl
theorem sat_L1 : Sat bs.P 3 (lawSp [PC, I, I]) := by
  refine sat_nf (C := G1) ssG1 (fun x => l1_nf x.1 x.2.1 x.2.2) fun (⟨p, k, want⟩ : Piece × Int × Int) hk _ => ?_
  try dsimp only
  refine ⟨trivial, fun _ => ⟨trivial, rfl⟩, fun hf => ⟨trivial, trivial, fun h => by simp at h, fun _ => ⟨fun _ => ⟨trivial, rfl⟩, fun hv => ?_⟩⟩⟩
  have hV := vp_of (nf hv)
  have hF := few_of (nf hf)
  have hs := hV.small (by omega)
  have ho := hV.order
  have hk1 := hV.v.k1
  simp only [hs, ho, hk1, and_self, decide_true, beq_self_eq_true]
end Go.Proofs.Ytmimchmdikjilaa
