import Derived.Test.YtighbmlnlmbbkaaHr
namespace Go.Proofs.Ytighbmlnlmbbkaa
open Go.AM Go.PL
set_option linter.unusedVariables false
theorem l2_nf (a b : List Hit) (k : Int) (h : Hit) : fnwp HL1 6 4 (lawSp [HL, HL, I, HT]) (a, b, k, h) = (True ∧ ((!validH a k) = true → True ∧ true = true) ∧ ((!validH a k) =
  false → True ∧ ((!validH b k) = true → True ∧ true = true) ∧ ((!validH b k) = false → True ∧ ((!rightH h) = true → True ∧ true = true) ∧ ((!rightH h) = false → (a.length ≤ (900 :
  Nat) ∧ (0 : Int) ≤ k) ∧ (a.length ≤ (900 : Nat) ∧ (0 : Int) ≤ k) ∧ True ∧ sameH (ofH (a ++ [h]) k) (ofH (a ++ [h]) k) = true ∧ (a.length ≤ (900 : Nat) ∧ (0 : Int) ≤ k) ∧
  (a.length ≤ (900 : Nat) ∧ (0 : Int) ≤ k) ∧ ((!sameH a (ofH (a ++ [h]) k)) == !sameH a (ofH (a ++ [h]) k)) = true ∧ (a.length + b.length ≤ (1000 : Nat) ∧ (0 : Int) ≤ k) ∧
  (a.length + b.length ≤ (1000 : Nat) ∧ (0 : Int) ≤ k) ∧ True ∧ True ∧ true = true ∧ sameH (ofH (a ++ b) k) (ofH (a ++ b) k) = true ∧ ((1 : Int) ≤ k ∧ ∀ (h : Int × Int × Int ×
  PUnit), h ∈ a → (0 : Int) ≤ h.snd.snd.fst) ∧ ((1 : Int) ≤ k ∧ ∀ (h : Int × Int × Int × PUnit), h ∈ a → (0 : Int) ≤ h.snd.snd.fst) ∧ decide (worstH a k = worstH a k) = true ∧
  a.length ≤ (1000 : Nat) ∧ a.length ≤ (1000 : Nat) ∧ decide (commonH a b = commonH a b) = true)))) := by kernel_rfl
theorem sat_L2 : Sat bs.P 4 (lawSp [HL, HL, I, HT]) := by
  refine sat_nf (C := HL1) ssHL1 (fun x => l2_nf x.1 x.2.1 x.2.2.1 x.2.2.2) fun (⟨a, b, k, h⟩ : List Hit × List Hit × Int × Hit) hk _ => ?_
  try dsimp only
  refine ⟨trivial, fun _ => ⟨trivial, rfl⟩, fun ha => ⟨trivial, fun _ => ⟨trivial, rfl⟩, fun hb => ⟨trivial, fun _ => ⟨trivial, rfl⟩, fun hh => ?_⟩⟩⟩
  have va := isV_of (nf ha)
  have vb := isV_of (nf hb)
  have h1 := va.k1; have h2 := va.k2; have h3 := va.len; have h4 := vb.len
  have hkey : ∀ x ∈ a, 0 ≤ (x : Hit).2.2.1 := fun x hx => (va.key x hx).1
  refine ⟨⟨by omega, by omega⟩, ⟨by omega, by omega⟩, trivial, same_self _, ⟨by omega, by omega⟩, ⟨by omega, by omega⟩, by simp, ⟨by omega, by omega⟩, ⟨by omega, by omega⟩, trivial, trivial, rfl, same_self _, ⟨h1, hkey⟩, ⟨h1, hkey⟩, by simp, by omega, by omega, by simp⟩
end Go.Proofs.Ytighbmlnlmbbkaa
