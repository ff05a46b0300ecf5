import Derived.Test.YtdeleoaeegmhlaaGreatMEc
namespace Go.PL
open Go.AM
set_option linter.unusedVariables false
theorem meets_is {x y : Ar} : meets x y = (meetS x.1 y.1).2.1 := by
  unfold meets
  cases h : (meetS x.1 y.1).2.1
  · rfl
  · have : (meetS x.1 y.1).2.2 = 0 := by
      unfold meetS at h ⊢
      split at h
      · rename_i h1
        rw [if_pos h1]
        split at h
        · rename_i h2; rw [if_pos h2]
        · cases h
      · cases h
    rw [this]
    rfl
end Go.PL
namespace Go.Proofs.YtdeleoaeegmhlaaGreat
open Go.AM Go.PL
set_option linter.unusedVariables false
attribute [local irreducible] fnwp fnwpG fnwpI
theorem sat_rMoves (n : Nat) : Sat Tryz.prog 16 (rMovesSp n) := by
  refine sat_nf (C := QC n) (ssQC n) (fun x => rMoves_nf n x.1 x.2) fun (x : Dv × Dv) hk hp => ?_
  obtain ⟨a, b⟩ := x
  obtain ⟨⟨pa, pb, hm⟩, ra, rb⟩ : preM n a b ∧ preR n a ∧ preR n b := hp
  dsimp only
  have hb : (QC n).P.bytesOf 52 = 80 := bytesM
  have offl : ∀ {d : Dv}, preA n d → ∀ y ∈ areasN n d, y.2.1.length ≤ 1000000 := fun {d} hp y hy => by
    have h : okA n d := hp.2.2.2
    obtain ⟨p, hp', e⟩ := List.mem_map.1 hy
    rw [← e]
    exact h.2 p hp'
  have la := areas_le pa
  have lb := areas_le pb
  refine ⟨ra, rb, fun s => 0 ≤ s.2 ∧ s.2 ≤ (areasN n b).length ∧ s.1 = ((areasN n b).take s.2.toNat).flatMap (movesX (areasN n a)), fun s => (((areasN n b).length : Int) - s.2).toNat, ⟨by omega, by omega, rfl⟩, fun s ⟨h0, h1, h2⟩ => ⟨fun c => ?_, fun c => ?_⟩⟩
  · have c := dt c
    have eb := flat_step (areasN n b) dAr (movesX (areasN n a)) h0 c
    have rb := flat_room (areasN n b) dAr (movesX (areasN n a)) h0 c
    have mb : (areasN n b).getD s.2.toNat dAr ∈ areasN n b := getD_mem _ _ (by omega)
    have ob := offl pb _ mb
    revert eb rb ob
    generalize (areasN n b).getD s.2.toNat dAr = x
    intro eb rb ob
    refine ⟨fun t => 0 ≤ t.2 ∧ t.2 ≤ (areasN n a).length ∧ t.1 = s.1 ++ ((areasN n a).take t.2.toNat).flatMap (movesY x), fun t => (((areasN n a).length : Int) - t.2).toNat, ⟨by dsimp only; omega, by dsimp only; omega, (List.append_nil _).symm⟩, fun t ht => ?_⟩
    obtain ⟨o1, j⟩ := t
    obtain ⟨g0, g1, g2⟩ := ht
    dsimp only at g0 g1 g2 ⊢
    refine ⟨fun k => ⟨⟨h0, c⟩, ⟨g0, dt k⟩, trivial, ?_⟩, fun k => ?_⟩
    · have k := dt k
      have ea := flat_step (areasN n a) dAr (movesY x) g0 k
      have ra := flat_room (areasN n a) dAr (movesY x) g0 k
      revert ea ra
      generalize (areasN n a).getD j.toNat dAr = y
      intro ea ra
      have ey2 : meets x y = true → movesY x y = x.2.1.flatMap (moveF x y) := fun h => by unfold movesY; rw [h]; rfl
      have ey3 : meets x y = false → movesY x y = [] := fun h => by unfold movesY; rw [h]; rfl
      have em0 := meets_is (x := x) (y := y)
      refine ⟨fun u => u.2.1 = (meetS x.1 y.1).1.1 ∧ u.2.2.1 = (meetS x.1 y.1).1.2.1 ∧ u.2.2.2.1 = meets x y ∧ 0 ≤ u.2.2.2.2 ∧ u.2.2.2.2 ≤ x.2.1.length ∧ u.1 = o1 ++ (if meets x y then (x.2.1.take u.2.2.2.2.toNat).flatMap (moveF x y) else []), fun u => ((x.2.1.length : Int) - u.2.2.2.2).toNat, ⟨rfl, rfl, em0.symm, by dsimp only; omega, by dsimp only; omega, ?_⟩, fun u hu => ?_⟩
      · dsimp only
        split <;> exact (List.append_nil _).symm
      obtain ⟨o2, ml, mh, is, i⟩ := u
      obtain ⟨e1, e2, e3, f0, f1, f2⟩ := hu
      dsimp only at e1 e2 e3 f0 f1 f2 ⊢
      subst e1 e2 e3
      refine ⟨⟨h0, c⟩, fun p => ⟨fun q => ⟨⟨g0, k⟩, ⟨h0, c⟩, ⟨f0, dt p⟩, trivial, fun p1 => ?_, fun p1 => ?_⟩, fun q => ?_⟩, fun p => ?_⟩
      · have p := dt p
        have ei := flat_step x.2.1 0 (moveF x y) f0 p
        have ri := flat_room x.2.1 0 (moveF x y) f0 p
        have em : moveF x y (x.2.1.getD i.toNat 0) = [((meetS x.1 y.1).1, y.2.1, x.2.1.getD i.toNat 0, ())] := by
          have : inL y.2.1 (x.2.1.getD i.toNat 0) = false := nt p1
          unfold moveF
          rw [this]
          rfl
        rw [em] at ei ri
        rw [if_pos q] at f2
        refine ⟨⟨g0, k⟩, ⟨h0, c⟩, ⟨f0, p⟩, roomM hb ?_, i64s (by omega) (by omega), ⟨rfl, rfl, rfl, by omega, by omega, ?_⟩, by omega⟩
        · have e5 : (movesN n a b).length = ((areasN n b).flatMap (movesX (areasN n a))).length := rfl
          have e6 : (movesX (areasN n a) x).length = ((areasN n a).flatMap (movesY x)).length := rfl
          rw [f2, g2, h2]
          simp only [List.length_append, List.length_cons, List.length_nil] at ri ⊢
          rw [ey2 q] at ra
          omega
        · rw [if_pos q, ei, f2, List.append_assoc]
      · have p := dt p
        have ei := flat_step x.2.1 0 (moveF x y) f0 p
        have em : moveF x y (x.2.1.getD i.toNat 0) = [] := by
          have : inL y.2.1 (x.2.1.getD i.toNat 0) = true := nf p1
          unfold moveF
          rw [this]
          rfl
        refine ⟨i64s (by omega) (by omega), ⟨rfl, rfl, rfl, by omega, by omega, ?_⟩, by omega⟩
        rw [if_pos q] at f2 ⊢
        rw [ei, em, List.append_nil]
        exact f2
      · rw [q] at f2
        refine ⟨i64s (by omega) (by omega), ⟨by omega, by omega, ?_⟩, by omega⟩
        rw [ea, ey3 q, List.append_nil, f2, g2]
        exact List.append_nil _
      · have p := df p
        have hi : i.toNat = x.2.1.length := by omega
        refine ⟨i64s (by omega) (by omega), ⟨by omega, by omega, ?_⟩, by omega⟩
        rw [ea, f2, hi, List.take_length, g2, List.append_assoc]
        congr 2
    · have k := df k
      have hj : j.toNat = (areasN n a).length := by omega
      refine ⟨i64s (by omega) (by omega), ⟨by omega, by omega, ?_⟩, by omega⟩
      rw [eb, g2, hj, List.take_length, h2]
      rfl
  · have c := df c
    have hs : s.2.toNat = (areasN n b).length := by omega
    rw [h2, hs, List.take_length]
    rfl
end Go.Proofs.YtdeleoaeegmhlaaGreat
