import Derived.Test.YtmimchmdikjilaaHf
import Derived.Test.YtmimchmdikjilaaSg
namespace Go.Proofs.Ytmimchmdikjilaa
open Go.AM Go.PL Go.RowKit
set_option linter.unusedVariables false
/-! ### slices.Grow of nothing -/
def growHSp : GSpec := ⟨[I], 37, HT, fun n => 0 ≤ (n : Int) ∧ (n : Int) ≤ 1000000, fun _ => []⟩
theorem infoH : Try.prog.info? (Try.growHits_ren.t 25) = some Try.t37 := by kernel_rfl
theorem satN_grow : SatN bs.P 80 growHSp := by
  intro Ψ w (x : Int) args hprom hrel hpre
  obtain ⟨h0, h1⟩ : 0 ≤ x ∧ x ≤ 1000000 := hpre
  obtain ⟨v, vs', rfl, hv, hl⟩ := hrel
  simp only [RelL] at hl
  subst hl
  obtain ⟨rfl, hh⟩ := rv_int.1 hv
  obtain ⟨n, rfl⟩ := Int.eq_ofNat_of_zero_le h0
  have hn : n ≤ 1000000 := by omega
  rcases Nat.eq_zero_or_pos n with e | e
  · subst e
    refine (Any8.slices_Grow_room Try.growHits none 0 0 0 w (by omega) (by omega) (by omega) (by omega)).mono ?_
    rintro e w' ⟨rfl, rfl⟩
    exact ⟨_, Ψ, rfl, Below.refl _ _, fun _ _ h => h, fun _ _ h => .inl h, rfl, .inl ⟨none, rfl, rfl⟩, by
      rintro g ⟨m, cap, h1, h2⟩
      simp at h2⟩
  · refine (Any8.slices_Grow_grow Try.growHits Try.t37 (.agg #[.int .i64 0, .int .i64 0, .int .i64 0]) infoH rfl (by decide) none 0 0 n [] w (by omega) (by omega) (by
      have : (Try.t37).bytes = 24 := by kernel_rfl
      rw [this]; omega) (by omega) rfl (fun _ => rfl) (by simp)).mono ?_
    rintro e' w' ⟨rfl, rfl⟩
    have hG1 := grownCap_ge w (0 + n) 0 (Try.growHits_ren.t 25)
    have hG2 := grownCap_le_maxLen w (0 + n) 0 (Try.growHits_ren.t 25) (by unfold maxLen; omega)
    generalize grownCap w (0 + n) 0 (Try.growHits_ren.t 25) = G at hG1 hG2 ⊢
    obtain ⟨cur, hcur⟩ : ∃ cur : Array Value, cur = ([] : List Value).toArray ++ Builtin.zeroCells (Value.agg #[.int .i64 0, .int .i64 0, .int .i64 0]).cells (0 + n - 0) ++ Builtin.zeroCells (Value.agg #[.int .i64 0, .int .i64 0, .int .i64 0]).cells (G - (0 + n)) := ⟨_, rfl⟩
    rw [← hcur]
    refine ⟨_, Ψ, rfl, ⟨rfl, rfl, rfl, ?_, fun k hk => ?_⟩, fun _ _ h => h, fun _ _ h => .inl h, rfl, .inr ⟨w.heap.size, G, cur, rfl, by omega, Nat.le_refl _, ?_, Nat.zero_le _, hG2, ?_, ?_⟩, ?_⟩
    · show _ ≤ (w.heap.push _).size
      simp
    · show (w.heap.push _)[k]? = _
      rw [Array.getElem?_push, if_neg (by omega)]
    · show (w.heap.push _)[w.heap.size]? = _
      simp
      rfl
    · rw [hcur, Array.size_append, Array.size_append, size_zeroCells, size_zeroCells]
      show 0 + (0 + n - 0) * 3 + (G - (0 + n)) * 3 = G * 3
      omega
    · show _ = ([] : List Value)
      exact List.take_zero ..
    · rintro g ⟨m, cap, h1, h2⟩ a ha
      have hg : g = w.heap.size := by
        simp at h2
        exact h2.1.symm
      cases hp : Ψ a with
      | none => rfl
      | some u =>
        have h3 := (hprom a u hp).2
        have h4 : a.block < w.heap.size := by
          rcases Nat.lt_or_ge a.block w.heap.size with h5 | h5
          · exact h5
          · simp [World.cell?, h5] at h3
        omega
end Go.Proofs.Ytmimchmdikjilaa
