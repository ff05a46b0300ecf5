import Derived.Test.YtdeleoaeegmhlaaMYd
namespace Go.Proofs.Ytdeleoaeegmhlaa
open Go.AM Go.PL
set_option linter.unusedVariables false
attribute [local irreducible] fnwp fnwpG fnwpI
theorem ssY1 : SpecSound Y1 := mkctx_sound ⟨sat_good, trivial⟩ ⟨sat_rep, trivial⟩
theorem sat_whole : Sat Try.prog 32 wholeSp := by
  refine sat_nf (C := Y1) ssY1 whole_nf fun (d : Int) hk hp => ?_
  obtain ⟨h1, h2⟩ : 1 ≤ d ∧ d ≤ 1000 := hp
  exact ⟨⟨rfl, h1, by omega⟩, ⟨rfl, h1, by omega⟩, rfl⟩
theorem sat_rWhole : Sat Try.prog 28 wholeSp := by
  refine sat_nf (C := Y1) ssY1 rWhole_nf fun (d : Int) hk hp => ?_
  obtain ⟨h1, h2⟩ : 1 ≤ d ∧ d ≤ 1000 := hp
  refine ⟨fun x => 0 ≤ x.2.2 ∧ x.2.2 ≤ d ∧ x.1 = List.replicate x.2.2.toNat (-1000) ∧ x.2.1 = List.replicate x.2.2.toNat 1000, fun x => (d - x.2.2).toNat, ⟨by simp, by dsimp only; omega, rfl, rfl⟩, fun ⟨l, u, i⟩ ⟨g0, g1, g2, g3⟩ => ⟨fun c => ?_, fun c => ?_⟩⟩
  · have c := dt c
    dsimp only at g0 g1 g2 g3 c ⊢
    have e : (i + 1).toNat = i.toNat + 1 := by omega
    refine ⟨roomI (C := Y1) bytesI (by rw [g2]; simp; omega), roomI (C := Y1) bytesI (by rw [g3]; simp; omega), i64s (by omega) (by omega), ⟨by omega, by omega, ?_, ?_⟩, by omega⟩
    · rw [e, List.replicate_succ', ← g2]
    · rw [e, List.replicate_succ', ← g3]
  · have c := df c
    dsimp only at g0 g1 g2 g3 c ⊢
    have e : i = d := by omega
    rw [g2, g3, e]
    rfl
end Go.Proofs.Ytdeleoaeegmhlaa
