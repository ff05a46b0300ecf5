import Derived.Test.YtdeleoaeegmhlaaMYf
namespace Go.PL
open Go.AM
set_option linter.unusedVariables false
theorem sp_eta (y : Box × Sp) : (((y.fst.fst, y.fst.snd.fst, ()), Rose.node ((y.snd.val.fst.fst, y.snd.val.fst.snd.fst, ()), y.snd.val.snd.fst, ()) y.snd.subs) : Box × Sp) = y := by
  obtain ⟨b, r⟩ := y
  cases r
  rfl
theorem regs1_fork {n : Nat} {x : Sp} {b : Box} (h : ¬ leafOk x = true) (h' : forkOk x b = true) : regs1 n x b = regsN n (subOf x 0) (lowB b (axisOf x) (atOf x)) ++ regsN n (subOf x 1) (highB b (axisOf x) (atOf x)) := by
  show (if leafOk x then _ else if forkOk x b then _ else _) = _
  rw [if_neg h, if_pos h']
theorem even_low {b : Box} {x a : Int} (h : evenB b) : evenB (lowB b x a) := ⟨by show b.1.length = (b.2.1.set _ _).length; rw [List.length_set]; exact h.1, h.2⟩
theorem even_high {b : Box} {x a : Int} (h : evenB b) : evenB (highB b x a) := ⟨by show (b.1.set _ _).length = b.2.1.length; rw [List.length_set]; exact h.1, by show (b.1.set _ _).length ≤ 1000; rw [List.length_set]; exact h.2⟩
theorem deep_sub {n : Nat} {x : Sp} (h : deepN (n + 1) x) {i : Nat} (hi : i < x.subs.length) : deepN n (subOf x i) := by
  refine h _ ?_
  unfold subOf
  rw [List.getD_eq_getElem?_getD, List.getElem?_eq_getElem hi]
  exact List.getElem_mem hi
end Go.PL
namespace Go.Proofs.Ytdeleoaeegmhlaa
open Go.AM Go.PL
set_option linter.unusedVariables false
attribute [local irreducible] fnwp fnwpG fnwpI
theorem sat_regB (n : Nat) (hI : SatI Try.prog 64 (regI n)) : SatI Try.prog 64 (regIB n) := by
  have ssYB : SpecSound (YB n) := mkctxI_sound satY1 trivial ⟨hI, trivial⟩
  refine fnwpI_sat (C := YB n) ssYB 6 _ _ fun (x' : Sp × Box) hk hp => ?_
  obtain ⟨x, b⟩ := x'
  obtain ⟨⟨hd, he⟩, h0⟩ : (deepN (n + 1) x ∧ evenB b) ∧ x.subs.length ≠ 0 := hp
  rw [regB_nf]
  intro Y own hY
  have hl : ¬ leafOk x = true := fun h => h0 (leafOk_iff.1 h).1
  have bad := fun (h : ¬ forkOk x b = true) => told hY (regs1_bad hl h)
  refine ⟨decide_eq_false (by omega), fun c => bad fun h => ndt c (by have := (forkOk_iff.1 h).1; omega), fun c1 => ⟨fun c => bad fun h => ?_, fun c2 => ⟨he, fun c => bad fun h => ?_, fun c3 => ?_⟩⟩⟩
  · have := (forkOk_iff.1 h).2.1; unfold offs at this; have := dt c; omega
  · have := (forkOk_iff.1 h).2.2; unfold axisOf atOf at this; rw [nt c] at this; cases this
  have c1 := ndf c1
  have c2 := df c2
  have c3 := nf c3
  have hf : forkOk x b = true := forkOk_iff.2 ⟨by omega, by unfold offs; omega, c3⟩
  have hr := regs1_fork (n := n) hl hf
  refine ⟨⟨he, c3⟩, ⟨by omega, by simp⟩, ⟨by omega, by omega⟩, ⟨deep_sub (i := 0) hd (by omega), even_low he⟩, fun xs z _ => z = xs, ⟨own, [], rfl, rfl⟩, fun xs y rest hxs own1 z v hz => ?_, fun own1 z v hz => ?_⟩
  · have hxs : regsN n (subOf x 0) (lowB b (axisOf x) (atOf x)) = xs ++ y :: rest := hxs
    have hz : z = xs := hz
    subst hz
    rw [sp_eta y]
    exact ⟨⟨rest ++ regsN n (subOf x 1) (highB b (axisOf x) (atOf x)), by rw [hY, hr, hxs]; exact List.append_assoc _ _ _⟩, fun own2 => ⟨⟨own2, _, rfl, rfl⟩, .inr ⟨own2, rfl⟩⟩⟩
  · have hz : z = regsN n (subOf x 0) (lowB b (axisOf x) (atOf x)) := hz
    refine ⟨i64s (by omega) (by omega), ⟨by omega, by simp⟩, ⟨by omega, by omega⟩, ⟨deep_sub (i := 1) hd (by omega), even_high he⟩, fun xs z' _ => z' = z ++ xs, ⟨own1, z, rfl, (List.append_nil z).symm⟩, fun xs y rest hxs own3 z' v' hz' => ?_, fun own3 z' v' hz' => ⟨i64s (by omega) (by omega), .inl ⟨own3, ?_⟩⟩⟩
    · have hxs : regsN n (subOf x 1) (highB b (axisOf x) (atOf x)) = xs ++ y :: rest := hxs
      have hz' : z' = z ++ xs := hz'
      subst hz'
      rw [sp_eta y]
      exact ⟨⟨rest, by rw [hY, hr, hxs, hz]; exact (List.append_assoc _ _ _).symm⟩, fun own2 => ⟨⟨own2, _, rfl, List.append_assoc _ _ _⟩, .inr ⟨own2, rfl⟩⟩⟩
    · have hz' : z' = z ++ regsN n (subOf x 1) (highB b (axisOf x) (atOf x)) := hz'
      rw [hz', hz, hr]
/-- The iterator over regions, however deep. -/
theorem sat_reg : ∀ n, SatI Try.prog 64 (regI n)
  | 0 => fun B w0 Y x own Ψ w vs hp => hp.1.elim
  | n + 1 => fun B w0 Y x own Ψ w vs hp => by
    by_cases h : (x.1 : Sp).subs.length = 0
    · exact sat_regA n B w0 Y x own Ψ w vs ⟨hp, h⟩
    · exact sat_regB n (sat_reg n) B w0 Y x own Ψ w vs ⟨hp, h⟩
end Go.Proofs.Ytdeleoaeegmhlaa
