import Derived.Test.YtmimchmdikjilaaOe
namespace Go.Proofs.Ytmimchmdikjilaa
open Go.AM Go.PL Go.RowKit
set_option linter.unusedVariables false
theorem infoR : Try.prog.info? (Try.growRests_ren.t 25) = some Try.t44 := by kernel_rfl
theorem satN_growR : SatN bs.P 59 growRSp := by
  intro Ψ w (x : Int) args hprom hrel hpre
  obtain ⟨h0, h1⟩ : 0 ≤ x ∧ x ≤ 1000000 := hpre
  obtain ⟨v, vs', rfl, hv, hl⟩ := hrel
  simp only [RelL] at hl
  subst hl
  obtain ⟨rfl, hh⟩ := rv_int.1 hv
  obtain ⟨n, rfl⟩ := Int.eq_ofNat_of_zero_le h0
  have hn : n ≤ 1000000 := by omega
  rcases Nat.eq_zero_or_pos n with e | e
  · subst e
    refine (Any8.slices_Grow_room Try.growRests none 0 0 0 w (by omega) (by omega) (by omega) (by omega)).mono ?_
    rintro e w' ⟨rfl, rfl⟩
    exact ⟨_, Ψ, rfl, Below.refl _ _, fun _ _ h => h, fun _ _ h => .inl h, rfl, .inl ⟨none, rfl, rfl⟩, by
      rintro g ⟨m, cap, h1, h2⟩
      simp at h2⟩
  · refine (Any8.slices_Grow_grow Try.growRests Try.t44 (.agg #[.int .i64 0, .int .i64 0]) infoR rfl (by decide) none 0 0 n [] w (by omega) (by omega) (by
      have : (Try.t44).bytes = 16 := by kernel_rfl
      rw [this]; omega) (by omega) rfl (fun _ => rfl) (by simp)).mono ?_
    rintro e' w' ⟨rfl, rfl⟩
    have hG1 := grownCap_ge w (0 + n) 0 (Try.growRests_ren.t 25)
    have hG2 := grownCap_le_maxLen w (0 + n) 0 (Try.growRests_ren.t 25) (by unfold maxLen; omega)
    generalize grownCap w (0 + n) 0 (Try.growRests_ren.t 25) = G at hG1 hG2 ⊢
    obtain ⟨cur, hcur⟩ : ∃ cur : Array Value, cur = ([] : List Value).toArray ++ Builtin.zeroCells (Value.agg #[.int .i64 0, .int .i64 0]).cells (0 + n - 0) ++ Builtin.zeroCells (Value.agg #[.int .i64 0, .int .i64 0]).cells (G - (0 + n)) := ⟨_, rfl⟩
    rw [← hcur]
    refine ⟨_, Ψ, rfl, ⟨rfl, rfl, rfl, ?_, fun k hk => ?_⟩, fun _ _ h => h, fun _ _ h => .inl h, rfl, .inr ⟨w.heap.size, G, cur, rfl, by omega, Nat.le_refl _, ?_, Nat.zero_le _, hG2, ?_, ?_⟩, ?_⟩
    · show _ ≤ (w.heap.push _).size
      simp
    · show (w.heap.push _)[k]? = _
      rw [Array.getElem?_push, if_neg (by omega)]
    · show (w.heap.push _)[w.heap.size]? = _
      simp
      rfl
    · rw [hcur, Array.size_append, Array.size_append, size_zeroCells, size_zeroCells]
      show 0 + (0 + n - 0) * 2 + (G - (0 + n)) * 2 = G * 2
      omega
    · show _ = ([] : List Value)
      exact List.take_zero ..
    · rintro g ⟨m, cap, h1, h2⟩ a ha
      have hg : g = w.heap.size := by
        simp at h2
        exact h2.1.symm
      cases hp : Ψ a with
      | none => rfl
      | some u =>
        have h3 := (hprom a u hp).2
        have h4 : a.block < w.heap.size := by
          rcases Nat.lt_or_ge a.block w.heap.size with h5 | h5
          · exact h5
          · simp [World.cell?, h5] at h3
        omega

theorem ssJ0 : SpecSound J0 := mkctxS_sound satQ2 trivial trivial ⟨satN_growR, trivial⟩
theorem flatR_step (ll : List (List Rst)) {i : Int} (h0 : 0 ≤ i) (h1 : i < ll.length) : (ll.take (i + 1).toNat).flatten = (ll.take i.toNat).flatten ++ ll.getD i.toNat [] := by
  rw [take_step ll [] h0 h1, List.flatten_append]
  simp
theorem flatR_le (ll : List (List Rst)) (n : Nat) : (ll.take n).flatten.length ≤ ll.flatten.length := by
  conv => rhs; rw [← List.take_append_drop n ll, List.flatten_append, List.length_append]
  omega
theorem sat_concatR : SatG bs.P 39 concatRG := by
  refine fnwpG_sat (C := J0) ssJ0 6 _ concatRG fun (ll : List (List Rst)) hk hp => ?_
  rw [concatR_nf]
  obtain ⟨hp1, hp2⟩ : ll.length ≤ 1000 ∧ ll.flatten.length ≤ 1000 := hp
  refine ⟨fun x => 0 ≤ x.1 ∧ x.1 ≤ ll.length ∧ x.2 = ((ll.take x.1.toNat).flatten.length : Int), fun x => (ll.length - x.1).toNat, ⟨by omega, by omega, rfl⟩, ?_⟩
  rintro ⟨i, n⟩ ⟨h0, h1, h2⟩
  dsimp only at h0 h1 h2 ⊢
  have hle := flatR_le ll i.toNat
  refine ⟨fun hlt => ?_, fun hlt => ⟨⟨by omega, by omega⟩, ?_⟩⟩
  · have hlt := dt hlt
    have hst := flatR_step ll h0 hlt
    have hle' := flatR_le ll (i + 1).toNat
    have hsl := congrArg List.length hst
    rw [List.length_append] at hsl
    exact ⟨⟨h0, hlt⟩, i64s (by omega) (by omega), fun h => by have := dt h; omega, fun _ => ⟨i64s (by omega) (by omega), ⟨by omega, by omega, by omega⟩, by omega⟩⟩
  · refine ⟨fun x => 0 ≤ x.1 ∧ x.1 ≤ ll.length ∧ x.2 = (ll.take x.1.toNat).flatten, fun x => (ll.length - x.1).toNat, ⟨by omega, by omega, rfl⟩, ?_⟩
    rintro ⟨j, out⟩ ⟨h3, h4, h5⟩
    dsimp only at h3 h4 h5 ⊢
    subst h5
    refine ⟨fun hlt => ?_, fun hlt => ?_⟩
    · have hlt := dt hlt
      have hst := flatR_step ll h3 hlt
      have hle' := flatR_le ll (j + 1).toNat
      have hsl := congrArg List.length hst
      rw [List.length_append] at hsl
      exact ⟨⟨h3, hlt⟩, roomR rfl (by omega), i64s (by omega) (by omega), ⟨by omega, by omega, hst.symm⟩, by omega⟩
    · have hlt := df hlt
      rw [List.take_of_length_le (by omega)]
theorem satJ1 : AllSat bs.P tJ1 := ⟨sat_merge, sat_rMerge, sat_rPutR, satQ2⟩
theorem ssJ1 : SpecSound J1 := mkctxS_sound satJ1 ⟨sat_concatR, trivial⟩ ⟨satS_rests, trivial⟩ trivial
theorem sat_join : Sat bs.P 21 joinPSp := by
  refine sat_nf (C := J1) ssJ1 (fun x => join_nf x.1 x.2.1 x.2.2) fun (⟨a, b, k⟩ : Piece × Piece × Int) hk hp => ?_
  obtain ⟨hp1, hp2⟩ : (a.1.length + b.1.length ≤ 1000 ∧ 0 ≤ k) ∧ a.2.1.length + b.2.1.length ≤ 1000 := hp
  try dsimp only
  have e : [a.2.1, b.2.1].flatten = a.2.1 ++ b.2.1 := by simp
  rw [e]
  have hl : (a.2.1 ++ b.2.1).length ≤ 1000 := by rw [List.length_append]; exact hp2
  exact ⟨⟨by simp, hl⟩, by omega, hp1, rfl⟩
theorem foldR_len (l : List Rst) : ∀ s : List Rst, (l.foldl putR s).length = s.length + l.length := fun s => by
  have := (foldR_perm l s).length_eq
  rw [this, List.length_append]
theorem sat_rJoin : Sat bs.P 23 rJoinPSp := by
  refine sat_nf (C := J1) ssJ1 (fun x => rJoin_nf x.1 x.2.1 x.2.2) fun (⟨a, b, k⟩ : Piece × Piece × Int) hk hp => ?_
  obtain ⟨hp1, hp2⟩ : (a.1.length + b.1.length ≤ 1000 ∧ 0 ≤ k) ∧ a.2.1.length + b.2.1.length ≤ 1000 := hp
  try dsimp only
  simp only [show (((0 : Int), (0 : Int), ()) : Rst) = rest0 from rfl]
  refine ⟨hp1, roomR rfl (by omega), fun x => 0 ≤ x.1 ∧ x.1 ≤ b.2.1.length ∧ x.2.1 = ofH (a.1 ++ b.1) k ∧ x.2.2 = (b.2.1.take x.1.toNat).foldl putR a.2.1, fun x => (b.2.1.length - x.1).toNat, ⟨by omega, by omega, rfl, rfl⟩, ?_⟩
  rintro ⟨i, h, out⟩ ⟨h0, h1, h2, h3⟩
  dsimp only at h0 h1 h2 h3 ⊢
  subst h2 h3
  refine ⟨fun hlt => ?_, fun hlt => ?_⟩
  · have hlt := dt hlt
    refine ⟨⟨h0, hlt⟩, ?_, i64s (by omega) (by omega), ⟨by omega, by omega, rfl, ?_⟩, by omega⟩
    · rw [foldR_len, List.length_take]; omega
    · rw [take_step b.2.1 rest0 h0 hlt, List.foldl_append]; rfl
  · have hlt := df hlt
    rw [List.take_of_length_le (by omega)]
theorem satJ2 : AllSat bs.P tJ2 := ⟨sat_validP, sat_rValidP, sat_exact, sat_rExact, sat_sameP, sat_fill, sat_need, sat_rNeed, sat_join, sat_rJoin, sat_of, sat_commonH, satJ1⟩
theorem ssJS : SpecSound JS := mkctx_sound satJ2 trivial
theorem sat_sanP : Sat bs.P 10 sanPSp := by
  refine sat_nf (C := JS) ssJS (fun _ => sanP_nf) fun _ _ _ => ?_
  simp [smallP, smallL, orderP]
end Go.Proofs.Ytmimchmdikjilaa
