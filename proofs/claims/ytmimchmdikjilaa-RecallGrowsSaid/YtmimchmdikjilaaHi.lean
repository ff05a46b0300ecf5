import Derived.Test.YtmimchmdikjilaaHh
--@drop
namespace Go.Proofs.Ytmimchmdikjilaa
open Go.AM Go.PL
set_option linter.unusedVariables false
theorem ssHP0 : SpecSound HP0 := mkctxS_sound satH2 trivial trivial ⟨satN_grow, trivial⟩
theorem flat_step (ll : List (List Hit)) {i : Int} (h0 : 0 ≤ i) (h1 : i < ll.length) : (ll.take (i + 1).toNat).flatten = (ll.take i.toNat).flatten ++ ll.getD i.toNat [] := by
  rw [take_step ll [] h0 h1, List.flatten_append]
  simp
theorem flat_le (ll : List (List Hit)) (n : Nat) : (ll.take n).flatten.length ≤ ll.flatten.length := by
  conv => rhs; rw [← List.take_append_drop n ll, List.flatten_append, List.length_append]
  omega
theorem sat_concat : SatG bs.P 62 concatG := by
  refine fnwpG_sat (C := HP0) ssHP0 6 _ concatG fun (ll : List (List Hit)) hk hp => ?_
  rw [concat_nf]
  obtain ⟨hp1, hp2⟩ : ll.length ≤ 1000 ∧ ll.flatten.length ≤ 1000 := hp
  refine ⟨fun x => 0 ≤ x.1 ∧ x.1 ≤ ll.length ∧ x.2 = ((ll.take x.1.toNat).flatten.length : Int), fun x => (ll.length - x.1).toNat, ⟨by omega, by omega, rfl⟩, ?_⟩
  rintro ⟨i, n⟩ ⟨h0, h1, h2⟩
  dsimp only at h0 h1 h2 ⊢
  have hle := flat_le ll i.toNat
  refine ⟨fun hlt => ?_, fun hlt => ⟨⟨by omega, by omega⟩, ?_⟩⟩
  · have hlt := dt hlt
    have hst := flat_step ll h0 hlt
    have hle' := flat_le ll (i + 1).toNat
    have hsl := congrArg List.length hst
    rw [List.length_append] at hsl
    exact ⟨⟨h0, hlt⟩, i64s (by omega) (by omega), fun h => by have := dt h; omega, fun _ => ⟨i64s (by omega) (by omega), ⟨by omega, by omega, by omega⟩, by omega⟩⟩
  · refine ⟨fun x => 0 ≤ x.1 ∧ x.1 ≤ ll.length ∧ x.2 = (ll.take x.1.toNat).flatten, fun x => (ll.length - x.1).toNat, ⟨by omega, by omega, rfl⟩, ?_⟩
    rintro ⟨j, out⟩ ⟨h3, h4, h5⟩
    dsimp only at h3 h4 h5 ⊢
    subst h5
    refine ⟨fun hlt => ?_, fun hlt => ?_⟩
    · have hlt := dt hlt
      have hst := flat_step ll h3 hlt
      have hle' := flat_le ll (j + 1).toNat
      have hsl := congrArg List.length hst
      rw [List.length_append] at hsl
      exact ⟨⟨h3, hlt⟩, roomH rfl (by omega), i64s (by omega) (by omega), ⟨by omega, by omega, hst.symm⟩, by omega⟩
    · have hlt := df hlt
      rw [List.take_of_length_le (by omega)]
theorem hit_eqs (a b : Hit) : (decide (a.1 = b.1) && (decide (a.2.1 = b.2.1) && (decide (a.2.2.1 = b.2.2.1) && true))) = decide (a = b) := by
  obtain ⟨a1, a2, a3, u⟩ := a
  obtain ⟨b1, b2, b3, v⟩ := b
  apply bool_is
  simp [Prod.ext_iff]
theorem common_step (a b : List Hit) {i : Int} (h0 : 0 ≤ i) (h1 : i < a.length) : commonH (a.take (i + 1).toNat) b = commonH (a.take i.toNat) b + (if hasH b (a.getD i.toNat hit0).1 = true then 1 else 0) := by
  unfold commonH
  rw [take_step a hit0 h0 h1, List.filter_append, List.length_append]
  by_cases h : hasH b (a.getD i.toNat hit0).1 = true
  · rw [if_pos h, List.filter_cons, if_pos h]
    simp
  · rw [if_neg h, List.filter_cons, if_neg h]
    simp
theorem common_le (a b : List Hit) : 0 ≤ commonH a b ∧ commonH a b ≤ a.length := by
  unfold commonH
  have := List.length_filter_le (fun x => hasH b x.1) a
  omega
theorem sat_commonH : Sat bs.P 28 commonHSp := by
  refine sat_nf (C := HP0) ssHP0 (fun x => common_nf x.1 x.2) fun (⟨a, b⟩ : List Hit × List Hit) hk hp => ?_
  try dsimp only
  have hp : a.length ≤ 1000 := hp
  have hm : b.length ≤ 9223372036854775807 := hk.2.1
  simp only [show (((0 : Int), (0 : Int), (0 : Int), ()) : Hit) = hit0 from rfl]
  refine ⟨fun x => 0 ≤ x.1 ∧ x.1 ≤ a.length ∧ x.2 = commonH (a.take x.1.toNat) b, fun x => (a.length - x.1).toNat, ⟨by omega, by omega, rfl⟩, ?_⟩
  rintro ⟨i, n⟩ ⟨h0, h1, h2⟩
  dsimp only at h0 h1 h2 ⊢
  subst h2
  have hle := common_le (a.take i.toNat) b
  have hlen : (a.take i.toNat).length ≤ 1000 := by rw [List.length_take]; omega
  refine ⟨fun hlt => ?_, fun hlt => ?_⟩
  · have hlt := dt hlt
    have hst := common_step a b h0 hlt
    have hyes : hasH b (a.getD i.toNat hit0).1 = true → isI64 (commonH (a.take i.toNat) b + 1) ∧ isI64 (i + 1) ∧ (0 ≤ i + 1 ∧ i + 1 ≤ a.length ∧ commonH (a.take i.toNat) b + 1 = commonH (a.take (i + 1).toNat) b) ∧ (a.length - (i + 1)).toNat < (a.length - i).toNat := fun h => by
      rw [if_pos h] at hst
      exact ⟨i64s (by omega) (by omega), i64s (by omega) (by omega), ⟨by omega, by omega, hst.symm⟩, by omega⟩
    have hno : ¬ hasH b (a.getD i.toNat hit0).1 = true → isI64 (i + 1) ∧ (0 ≤ i + 1 ∧ i + 1 ≤ a.length ∧ commonH (a.take i.toNat) b = commonH (a.take (i + 1).toNat) b) ∧ (a.length - (i + 1)).toNat < (a.length - i).toNat := fun h => by
      rw [if_neg h] at hst
      exact ⟨i64s (by omega) (by omega), ⟨by omega, by omega, by omega⟩, by omega⟩
    refine ⟨⟨h0, hlt⟩, fun x => 0 ≤ x.1 ∧ x.1 ≤ b.length ∧ x.2.1 = (a.getD i.toNat hit0).1 ∧ ∀ j, j < x.1.toNat → (b.getD j hit0).1 ≠ (a.getD i.toNat hit0).1, fun x => (b.length - x.1).toNat, ⟨by omega, by omega, rfl, by simp⟩, ?_⟩
    rintro ⟨j, id, u1, u2⟩ ⟨h3, h4, h5, h6⟩
    dsimp only at h3 h4 h5 h6 ⊢
    subst h5
    refine ⟨fun hj => ?_, fun hj => ⟨fun h => (by cases h), fun _ => ?_⟩⟩
    · have hj := dt hj
      refine ⟨⟨h3, hj⟩, fun he => ⟨fun _ => ?_, fun h => absurd h3 (df h)⟩, fun he => ⟨i64_lt h3 hj hm, ⟨by omega, by omega, rfl, fun q hq => ?_⟩, by omega⟩⟩
      · exact hyes ((hasH_iff _ _).2 ⟨_, getD_mem b hit0 (show j.toNat < b.length by omega), (dt he).symm⟩)
      · by_cases e : q = j.toNat
        · rw [e]; exact fun e' => df he e'.symm
        · exact h6 q (by omega)
    · have hj := df hj
      refine hno fun h => ?_
      obtain ⟨z, hz, e⟩ := (hasH_iff _ _).1 h
      obtain ⟨q, hq, rfl⟩ := List.getElem_of_mem hz
      have := h6 q (by omega)
      rw [getE b hq] at this
      exact this e
  · have hlt := df hlt
    rw [List.take_of_length_le (by omega)]
theorem satH3 : AllSat bs.P tH3 := ⟨sat_of, sat_validH, satH2⟩
theorem sat_merge : Sat bs.P 41 mergeHSp := by
  refine sat_nf (C := HP1) (mkctx_sound satH3 ⟨sat_concat, trivial⟩) (fun x => merge_nf x.1 x.2.1 x.2.2) fun (⟨a, b, k⟩ : List Hit × List Hit × Int) hk hp => ?_
  try dsimp only
  obtain ⟨hp1, hp2⟩ : a.length + b.length ≤ 1000 ∧ 0 ≤ k := hp
  have e : [a, b].flatten = a ++ b := by simp
  rw [e]
  exact ⟨⟨by simp, by simp; omega⟩, ⟨by simp; omega, hp2⟩, rfl⟩
end Go.Proofs.Ytmimchmdikjilaa
