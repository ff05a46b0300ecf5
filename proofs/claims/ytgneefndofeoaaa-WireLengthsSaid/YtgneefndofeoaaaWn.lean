import Derived.Test.YtgneefndofeoaaaWl
import Derived.Test.YtgneefndofeoaaaWm
namespace Go.Proofs.Ytgneefndofeoaaa
open Go.AM Go.PL
set_option linter.unusedVariables false

theorem law3_tail {m n : Int} (hm : isI64 m) (hn : isI64 n) :
    ((decide ((↑(encI m).length : Int) = (1 : Int)) != decide (max m ((-1 : Int) - m) < (64 : Int))) = true → false = true) ∧ ((decide ((↑(encI m).length : Int) = (1 : Int))
    != decide (max m ((-1 : Int) - m) < (64 : Int))) = false → (decide ((10 : Int) < (↑(encI m).length : Int)) = true → false = true) ∧ (decide ((10 : Int) < (↑(encI
    m).length : Int)) = false → (decide ((↑(encI m).length : Int) = (0 : Int)) = true → false = true) ∧ (decide ((↑(encI m).length : Int) = (0 : Int)) = false → (decide
    ((↑(encI n).length : Int) = (0 : Int)) = true → false = true) ∧ (decide ((↑(encI n).length : Int) = (0 : Int)) = false → True ∧ (true = true → isI64 ((-1 : Int) - m) ∧
    True ∧ (decide ((↑(encI ((-1 : Int) - m)).length : Int) = (↑(encI m).length : Int)) = true → ((0 : Int) ≤ (0 : Int) ∧ (0 : Int) ≤ min (↑(encI m).length : Int) (↑(encI
    n).length : Int) ∧ min (↑(encI m).length : Int) (↑(encI n).length : Int) ≤ (↑(encI m).length : Int)) ∧ ((0 : Int) ≤ (0 : Int) ∧ (0 : Int) ≤ min (↑(encI m).length : Int)
    (↑(encI n).length : Int) ∧ min (↑(encI m).length : Int) (↑(encI n).length : Int) ≤ (↑(encI n).length : Int)) ∧ (decide (List.take ((min (↑(encI m).length : Int) (↑(encI
    n).length : Int)).toNat - (0 : Nat)) (List.drop (0 : Nat) (encI m)) = List.take ((min (↑(encI m).length : Int) (↑(encI n).length : Int)).toNat - (0 : Nat)) (List.drop (0
    : Nat) (encI n))) == decide (m = n)) = true) ∧ (decide ((↑(encI ((-1 : Int) - m)).length : Int) = (↑(encI m).length : Int)) = false → false = true)) ∧ (true = false →
    false = true))))) := by
  have h1 := encI_len m
  have h2 := encI_len n
  have h3 := encI_neg m
  have h4 : isI64 (-1 - m) := by unfold isI64 at *; omega
  have e1 : decide (((encI m).length : Int) = 1) = decide (max m (-1 - m) < 64) := by
    have := encI_one m
    rw [decide_eq_decide]
    omega
  have hk : ((min ((encI m).length : Int) ((encI n).length : Int)).toNat - 0) = min (encI m).length (encI n).length := by omega
  have e2 := encI_take hm hn hk
  rw [e1]
  refine ⟨fun h => by simp at h, fun _ => ⟨fun h => absurd (of_decide_eq_true h) (by omega), fun _ => ⟨fun h => absurd (of_decide_eq_true h) (by omega), fun _ =>
    ⟨fun h => absurd (of_decide_eq_true h) (by omega), fun _ => ⟨trivial, fun _ => ⟨h4, trivial, fun _ => ⟨⟨by omega, by omega, by omega⟩, ⟨by omega, by omega, by omega⟩, ?_⟩,
      fun h => absurd (of_decide_eq_false h) (by omega)⟩, fun h => by cases h⟩⟩⟩⟩⟩
  rw [List.drop_zero, List.drop_zero, beq_iff_eq, decide_eq_decide]
  exact e2

theorem sat_law3 : Sat Try.prog 5 (lawSp [I, I]) := by
  refine fnwp_sat (C := XL) (mkctx_sound ⟨sat_sanity, satW⟩ trivial) 5 5 (lawSp [I, I]) fun (⟨m, n⟩ : Int × Int) hk _ => Eq.mpr (law3_nf m n) ?_
  have hm : isI64 m := has_i64.1 hk.1
  have hn : isI64 n := has_i64.1 hk.2
  have ht := law3_tail hm hn
  have a1 : max m (-1 - m) ≤ max n (-1 - n) → (encI m).length ≤ (encI n).length := encI_mono
  have a2 : max n (-1 - n) ≤ max m (-1 - m) → (encI n).length ≤ (encI m).length := encI_mono
  refine ⟨trivial, trivial, by unfold isI64 at *; omega, by unfold isI64 at *; omega, fun h1 => ⟨fun h => absurd (of_decide_eq_true h) (by have := a1 (of_decide_eq_true h1); omega), fun _ =>
    ⟨fun h2 => ⟨fun h => absurd (of_decide_eq_true h) (by have := a2 (of_decide_eq_true h2); omega), fun _ => ht⟩, fun _ => ht⟩⟩,
    fun h1 => ⟨fun h2 => ⟨fun h => absurd (of_decide_eq_true h) (by have := a2 (of_decide_eq_true h2); omega), fun _ => ht⟩, fun _ => ht⟩⟩
end Go.Proofs.Ytgneefndofeoaaa
