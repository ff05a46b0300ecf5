import Derived.Test.YtdhfjgooamoodaaGl
namespace Go.Proofs.Ytdhfjgooamoodaa
open Go.AM Go.PL
set_option linter.unusedVariables false
theorem sat_rShells : Sat Try.prog 34 rShellsSp := by
  refine sat_nf (C := G4) ssG4 (fun x => rShells_nf x.1 x.2.1 x.2.2) fun (⟨m, p, l⟩ : Int × List (List Int) × List (List Int)) hk _ => ?_
  dsimp only
  by_cases hB : bothB m p l = true
  · obtain ⟨p1, p2, l1, l2⟩ := both_len hB
    rw [shells_good hB, table_good hB]
    refine ⟨trivial, yes0 rfl, fun _ => ⟨fun x => tableS m p l = x.2.2 ∧ 0 ≤ x.2.1 ∧ x.2.1 ≤ p.length ∧ x.1 = tabL x.2.1.toNat (shellS m p l), fun x => ((p.length : Int) - x.2.1).toNat, ⟨rfl, by simp, by simp, rfl⟩, fun ⟨o, k, t⟩ ⟨et, k0, k1, k2⟩ => ?_⟩⟩
    dsimp only at et k0 k1 k2 ⊢
    subst et
    refine ⟨fun g => ?_, fun g => ?_⟩
    · have g := dt g
      rw [tableS_len, tableS_row (by omega), keysS_len, keysS_at (show k.toNat < p.length by omega)]
      refine ⟨⟨by omega, by omega⟩, ⟨k0, g⟩, ⟨by omega, by omega⟩, ⟨k0, g⟩, fun x => o = x.1 ∧ tableS m p l = x.2.2.1 ∧ 0 ≤ x.2.1 ∧ x.2.1 ≤ l.length ∧ x.2.2.2.1 = minK x.2.1.toNat (fun i => keyAt m p (l.getD i []) k.toNat) (keyAt m p (l.getD 0 []) k.toNat) ∧
        x.2.2.2.2 = maxK x.2.1.toNat (fun i => keyAt m p (l.getD i []) k.toNat) (keyAt m p (l.getD 0 []) k.toNat), fun x => ((l.length : Int) - x.2.1).toNat, ⟨rfl, rfl, by simp, by simp, rfl, rfl⟩, fun ⟨o', i, t, lo, hi⟩ ⟨e, et, i0, i1, i2, i3⟩ => ?_⟩
      dsimp only at e et i0 i1 i2 i3 ⊢
      subst e et
      refine ⟨fun h => ?_, fun h => ?_⟩
      · have h := dt h
        rw [tableS_len, tableS_row (show i.toNat < l.length by omega), keysS_len, keysS_at (show k.toNat < p.length by omega)]
        refine ⟨⟨i0, h⟩, ⟨k0, g⟩, ⟨i0, h⟩, ⟨k0, g⟩, i64s (by omega) (by omega), ⟨rfl, rfl, by omega, by omega, ?_, ?_⟩, by omega⟩
        · rw [succ_toNat i0, minK_succ, ← i2]
        · rw [succ_toNat i0, maxK_succ, ← i3]
      · have e := end_toNat i1 (df h)
        rw [e] at i2 i3
        refine ⟨room16 bytesS16 (by rw [k2, tabL_length, List.length_singleton]; omega), i64s (by omega) (by omega), ⟨rfl, by omega, by omega, ?_⟩, by omega⟩
        rw [succ_toNat k0, tabL_succ, k2, i2, i3]
        rfl
    · rw [k2, end_toNat k1 (df g)]
      rfl
  · rw [shells_bad hB, table_bad hB]
    exact ⟨trivial, fun _ => rfl, no0 (by decide)⟩
theorem sat_some : Sat Try.prog 31 someSp := by
  refine sat_nf (C := GO) (mkctx_sound satG4 trivial) (fun x => some_nf x.1 x.2.1 x.2.2) fun (⟨l, c, n⟩ : List (List Int) × List Int × Int) hk hp => ?_
  obtain ⟨l1, n8⟩ : 1 ≤ l.length ∧ n ≤ 8 := hp
  have hll : l.length ≤ 9223372036854775807 := hk.1.1
  have hc : ∀ x ∈ c, 0 ≤ x ∧ x ≤ 255 := fun x hx => by
    have := hk.2.1.2 x hx
    unfold okd at this
    have h1 : (0 : Int) ≤ x ∧ x ≤ 255 := this
    exact h1
  dsimp only
  refine ⟨fun x => 0 ≤ x.2 ∧ x.2 ≤ 8 ∧ (x.2 ≤ n ∨ x.2 = 0) ∧ x.1 = tabL x.2.toNat (fun i => l.getD (somePl l c i) []), fun x => (8 - x.2).toNat, ⟨by simp, by simp, by simp, rfl⟩, fun ⟨o, i⟩ ⟨i0, i1, i2, i3⟩ => ⟨fun g => ⟨fun h => ?_, fun h => ?_⟩, fun g => ?_⟩⟩
  · dsimp only at i0 i1 i2 i3 g h ⊢
    have g := dt g
    have h := dt h
    have hb := hc _ (getD_mem c 0 (show i.toNat < c.length by omega))
    have hw : IntKind.i64.wrap (c.getD i.toNat 0) = c.getD i.toNat 0 := i64_wrap (by omega) (by omega)
    have ht : (c.getD i.toNat 0).tmod (l.length : Int) = c.getD i.toNat 0 % (l.length : Int) := Int.tmod_eq_emod_of_nonneg hb.1
    rw [hw, ht]
    have e0 := Int.emod_nonneg (c.getD i.toNat 0) (show (l.length : Int) ≠ 0 by omega)
    have e1 := Int.emod_lt_of_pos (c.getD i.toNat 0) (show 0 < (l.length : Int) by omega)
    refine ⟨⟨i0, h⟩, by omega, ⟨e0, e1⟩, room24 bytesL24 (by rw [i3, tabL_length, List.length_singleton]; omega), i64s (by omega) (by omega), ⟨by omega, by omega, by omega, ?_⟩, by omega⟩
    rw [succ_toNat i0, tabL_succ, ← i3]
    have e : somePl l c i.toNat = (c.getD i.toNat 0 % (l.length : Int)).toNat := by
      unfold somePl
      rw [if_pos (by omega), Int.toNat_emod hb.1 (by omega)]
      rfl
    rw [e]
  · dsimp only at i0 i1 i2 i3 g h ⊢
    have g := dt g
    have h := df h
    refine ⟨⟨by omega, by omega⟩, room24 bytesL24 (by rw [i3, tabL_length, List.length_singleton]; omega), i64s (by omega) (by omega), ⟨by omega, by omega, by omega, ?_⟩, by omega⟩
    rw [succ_toNat i0, tabL_succ, ← i3]
    have e : somePl l c i.toNat = 0 := by
      unfold somePl
      rw [if_neg (by omega)]
    rw [e]
  · dsimp only at i0 i1 i2 i3 g ⊢
    have g := df g
    rw [i3]
    unfold someS
    rw [show i.toNat = n.toNat by omega]
theorem satG5 : AllSat bs.P tG5 := ⟨sat_rShells, satG4⟩
theorem sat_sanity : Sat Try.prog 10 sanSp :=
  sat_nf (C := GS) (mkctx_sound satG5 trivial) (fun _ => sanity_nf) fun _ _ _ => ⟨trivial, trivial, trivial, trivial, trivial, trivial, trivial, trivial, trivial, trivial, trivial, rfl⟩
theorem satG6 : AllSat bs.P tG6 := ⟨sat_sanity, sat_some, satG5⟩
theorem ssGL : SpecSound GL := mkctx_sound satG6 trivial
end Go.Proofs.Ytdhfjgooamoodaa
