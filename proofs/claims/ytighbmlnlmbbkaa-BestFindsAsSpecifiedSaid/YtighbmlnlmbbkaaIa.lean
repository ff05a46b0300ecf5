import Derived.Test.YtighbmlnlmbbkaaHr
namespace Go.Proofs.Ytighbmlnlmbbkaa
open Go.AM Go.PL
set_option linter.unusedVariables false
theorem l1_nf (l : List Hit) (k : Int) : fnwp HL1 6 3 (lawSp [HL, I]) (l, k) = ((decide ((40 : Int) < (↑l.length : Int)) = true → True ∧ true = true) ∧ (decide ((40 : Int) <
  (↑l.length : Int)) = false → True ∧ True ∧ ((validH l k != validH l k) = true → false = true) ∧ ((validH l k != validH l k) = false → ∃ (I : Int → Prop), ∃ (μ : Int → Nat), I (0
  : Int) ∧ ∀ (x : Int), I x → (decide (x < (↑l.length : Int)) = true → ((0 : Int) ≤ x ∧ x < (↑l.length : Int)) ∧ ((0 : Int) ≤ (0 : Int) ∧ (0 : Int) < (↑l.length : Int)) ∧ True ∧
  ((0 : Int) ≤ x ∧ x < (↑l.length : Int)) ∧ ((0 : Int) ≤ (0 : Int) ∧ (0 : Int) < (↑l.length : Int)) ∧ True ∧ ((ltH (l.getD x.toNat ((0 : Int), (0 : Int), (0 : Int), ())) (l.getD (0
  : Nat) ((0 : Int), (0 : Int), (0 : Int), ())) != ltH (l.getD x.toNat ((0 : Int), (0 : Int), (0 : Int), ())) (l.getD (0 : Nat) ((0 : Int), (0 : Int), (0 : Int), ()))) = true →
  false = true) ∧ ((ltH (l.getD x.toNat ((0 : Int), (0 : Int), (0 : Int), ())) (l.getD (0 : Nat) ((0 : Int), (0 : Int), (0 : Int), ())) != ltH (l.getD x.toNat ((0 : Int), (0 :
  Int), (0 : Int), ())) (l.getD (0 : Nat) ((0 : Int), (0 : Int), (0 : Int), ()))) = false → isI64 (x + (1 : Int)) ∧ I (x + (1 : Int)) ∧ μ (x + (1 : Int)) < μ x)) ∧ (decide (x <
  (↑l.length : Int)) = false → True ∧ ((!allRightH l) = true → True ∧ true = true) ∧ ((!allRightH l) = false → True ∧ ((!kH k) = true → True ∧ true = true) ∧ ((!kH k) = false →
  True ∧ true = true ∧ (l.length ≤ (1000 : Nat) ∧ (0 : Int) ≤ k) ∧ (l.length ≤ (1000 : Nat) ∧ (0 : Int) ≤ k) ∧ True ∧ sameH (ofH l k) (ofH l k) = true)))))) := by kernel_rfl
theorem bne_ff (b : Bool) : (b != b) = false := by cases b <;> rfl
theorem sat_L1 : Sat bs.P 3 (lawSp [HL, I]) := by
  refine sat_nf (C := HL1) ssHL1 (fun x => l1_nf x.1 x.2) fun (⟨l, k⟩ : List Hit × Int) hk _ => ?_
  try dsimp only
  simp only [show (((0 : Int), (0 : Int), (0 : Int), ()) : Hit) = hit0 from rfl, bne_ff, same_self]
  refine ⟨fun _ => ⟨trivial, by trivial⟩, fun hl => ⟨trivial, trivial, fun h => (by cases h), fun _ => ?_⟩⟩
  have hl := df hl
  refine ⟨fun x => 0 ≤ x ∧ x ≤ l.length, fun x => (l.length - x).toNat, ⟨by omega, by omega⟩, ?_⟩
  rintro i ⟨h0, h1⟩
  dsimp only
  refine ⟨fun hlt => ?_, fun hlt => ⟨trivial, fun _ => ⟨trivial, by trivial⟩, fun ha => ⟨trivial, fun _ => ⟨trivial, by trivial⟩, fun hkk => ?_⟩⟩⟩
  · have hlt := dt hlt
    exact ⟨⟨h0, hlt⟩, ⟨by omega, by omega⟩, trivial, ⟨h0, hlt⟩, ⟨by omega, by omega⟩, trivial, fun h => (by cases h), fun _ => ⟨i64s (by omega) (by omega), ⟨by omega, by omega⟩, by omega⟩⟩
  · have := kH_iff (nf hkk)
    exact ⟨trivial, by trivial, ⟨by omega, by omega⟩, ⟨by omega, by omega⟩, trivial, trivial⟩
end Go.Proofs.Ytighbmlnlmbbkaa
