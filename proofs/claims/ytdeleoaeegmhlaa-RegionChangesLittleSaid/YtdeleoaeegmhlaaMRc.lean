import Derived.Test.YtdeleoaeegmhlaaMRm
namespace Go.Proofs.Ytdeleoaeegmhlaa
open Go.AM Go.PL
set_option linter.unusedVariables false
attribute [local irreducible] fnwp fnwpG fnwpI
theorem sat_route (n : Nat) : Sat Try.prog 24 (routeSp n) := by
  refine sat_nf (C := YRt n) (mkctxM_sound ⟨sat_areasP n, sat_near, trivial⟩ trivial ⟨satM_sort, trivial⟩) (fun x => route_nf n x.1 x.2.1 x.2.2.1 x.2.2.2) fun (x : Dv × Int × List Int × Int) hk hp => ?_
  obtain ⟨d, m, v, w⟩ := x
  dsimp only
  have hp : preA n d := hp
  have hl : (areasN n d).length ≤ 1000 := by
    have h : okA n d := hp.2.2.2
    have := h.1
    unfold areasN
    rw [List.length_map]
    exact this
  have hb : (YRt n).P.bytesOf 3 = 8 := bytesI
  refine ⟨hp, fun s => 0 ≤ s.2.1 ∧ s.2.1 ≤ (areasN n d).length ∧ (s.1, s.2.2) = rRun (areasN n d) m v w s.2.1.toNat, fun s => (((areasN n d).length : Int) - s.2.1).toNat, ⟨by dsimp only; omega, by dsimp only; omega, rfl⟩, fun s hI => ?_⟩
  obtain ⟨o, i, mm⟩ := s
  obtain ⟨h0, h1, h2⟩ := hI
  dsimp only at h0 h1 h2 ⊢
  have hlen := rRun_len (areasN n d) m v w i.toNat
  rw [← h2] at hlen
  have hlen : o.length ≤ i.toNat := hlen
  refine ⟨fun c => ?_, fun c => ?_⟩
  · have c := dt c
    have e1 : (i + 1).toNat = i.toNat + 1 := by omega
    have ei : ((i.toNat : Nat) : Int) = i := by omega
    have es : rRun (areasN n d) m v w (i + 1).toNat = rStep m v w (o, mm) i ((areasN n d).getD i.toNat dAr) := by
      rw [e1]
      show rStep m v w (rRun (areasN n d) m v w i.toNat) (i.toNat : Int) _ = _
      rw [← h2, ei]
    revert es
    generalize (areasN n d).getD i.toNat dAr = a
    intro es
    have ea : ((a.1.1, a.1.2.1, ()) : Box) = a.1 := rfl
    rw [ea]
    have no : (decide ((nearS m a.1 v).2 = 0) && decide ((nearS m a.1 v).1 ≤ w)) = false → isI64 (i + 1) ∧ (0 ≤ i + 1 ∧ i + 1 ≤ (areasN n d).length ∧ (o, mm) = rRun (areasN n d) m v w (i + 1).toNat) ∧ (((areasN n d).length : Int) - (i + 1)).toNat < (((areasN n d).length : Int) - i).toNat := fun h => by
      unfold rStep at es
      rw [h] at es
      exact ⟨i64s (by omega) (by omega), ⟨by omega, by omega, es.symm⟩, by omega⟩
    refine ⟨⟨h0, c⟩, trivial, fun g => ⟨fun g1 => ?_, fun g1 => no (by rw [g, g1]; rfl)⟩, fun g => no (by rw [g]; rfl)⟩
    have yes : roomP (YRt n) 3 (o.length + [i].length) ∧ isI64 (i + 1) ∧ (0 ≤ i + 1 ∧ i + 1 ≤ (areasN n d).length ∧ (o ++ [i], mput mm i (nearS m a.1 v).1) = rRun (areasN n d) m v w (i + 1).toNat) ∧ (((areasN n d).length : Int) - (i + 1)).toNat < (((areasN n d).length : Int) - i).toNat := by
      unfold rStep at es
      rw [g, g1] at es
      exact ⟨roomI hb (by simp only [List.length_cons, List.length_nil]; omega), i64s (by omega) (by omega), ⟨by omega, by omega, es.symm⟩, by omega⟩
    exact ⟨yes, yes, yes⟩
  · have c := df c
    have hi : i.toNat = (areasN n d).length := by omega
    rw [hi] at h2
    refine ⟨by omega, ?_⟩
    show sortK mm o = sortK (rRun (areasN n d) m v w (areasN n d).length).2 (rRun (areasN n d) m v w (areasN n d).length).1
    rw [← h2]
end Go.Proofs.Ytdeleoaeegmhlaa
