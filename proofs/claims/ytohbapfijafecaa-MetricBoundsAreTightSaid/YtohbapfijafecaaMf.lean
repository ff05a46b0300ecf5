import Derived.Test.YtohbapfijafecaaMe
namespace Go.Proofs.Ytohbapfijafecaa
open Go.AM Go.PL

theorem ss2 : SpecSound C2 := by
  intro g sp h
  simp only [C2] at h
  split at h
  · rename_i hg; subst hg; simp at h; subst h; exact sat_isqrt
  · split at h
    · rename_i hg; subst hg; simp at h; subst h; exact sat_isqrt2
    · cases h

/-- The bounds of keys. -/
theorem key_mul {a b : Int} (ha : keyP a) (hb : keyP b) : 0 ≤ 4 * a * b ∧ 4 * a * b ≤ 72057594037927936 ∧ 0 ≤ a ∧ a ≤ 134217728 ∧ 0 ≤ b ∧ b ≤ 134217728 := by
  obtain ⟨a0, a1⟩ := ha
  obtain ⟨b0, b1⟩ := hb
  have e : (2 : Int) ^ 27 = 134217728 := by decide
  rw [e] at a1 b1
  have h1 : 0 ≤ 4 * a * b := Int.mul_nonneg (by omega) b0
  have h2 : 4 * a * b ≤ 536870912 * 134217728 := Int.mul_le_mul (by omega) b1 b0 (by omega)
  omega

/-- What is known of the root of the product. -/
theorem key_root {a b : Int} (ha : keyP a) (hb : keyP b) : 2 * min a b ≤ isq (4 * a * b) ∧ isq (4 * a * b) ≤ a + b := by
  obtain ⟨m0, m1, a0, a1, b0, b1⟩ := key_mul ha hb
  obtain ⟨r0, r1, r2⟩ := isq_spec m0 (n := 4 * a * b) (by omega)
  constructor
  · refine sq_inj r0 ?_
    have h1 : (2 * min a b) * (2 * min a b) ≤ 2 * a * (2 * b) := Int.mul_le_mul (by omega) (by omega) (by omega) (by omega)
    have e : 2 * a * (2 * b) = 4 * a * b := by
      rw [Int.mul_left_comm, ← Int.mul_assoc, ← Int.mul_assoc]
      rfl
    omega
  · refine sq_inj (by omega) ?_
    have h0 : 0 ≤ (a - b) * (a - b) := by
      rcases Int.le_total 0 (a - b) with h' | h'
      · exact Int.mul_nonneg h' h'
      · exact Int.mul_nonneg_of_nonpos_of_nonpos h' h'
    have e1 : (a + b) * (a + b) = (a - b) * (a - b) + 4 * a * b := by
      simp only [Int.add_mul, Int.mul_add, Int.sub_mul, Int.mul_sub, Int.mul_comm b a, Int.mul_assoc]
      omega
    have h3 : (a + b + 1) * (a + b + 1) = (a + b) * (a + b) + 2 * (a + b) + 1 := by
      generalize a + b = s
      simp only [Int.add_mul, Int.mul_add]
      omega
    omega

theorem sat_low : Sat Try.prog 14 lowSp := by
  refine fnwp_sat (C := C2) ss2 5 14 lowSp fun (⟨m, a, b⟩ : Int × Int × Int) _ hp => Eq.mpr (low_nf m a b) ?_
  obtain ⟨ha, hb⟩ : keyP a ∧ keyP b := hp
  obtain ⟨m0, m1, a0, a1, b0, b1⟩ := key_mul ha hb
  obtain ⟨r0, r1⟩ := key_root ha hb
  simp only [decide_eq_true_eq, decide_eq_false_iff_not, i64_iff]
  unfold lowS
  refine ⟨fun h => ?_, fun h => ?_⟩
  · rw [if_pos h]; exact ⟨by omega, by omega, by omega, trivial, by omega, by omega, by omega⟩
  · rw [if_neg h]; omega

theorem sat_low2 : Sat Try.prog 15 lowSp := by
  refine fnwp_sat (C := C2) ss2 5 15 lowSp fun (⟨m, a, b⟩ : Int × Int × Int) _ hp => Eq.mpr (low2_nf m a b) ?_
  obtain ⟨ha, hb⟩ : keyP a ∧ keyP b := hp
  obtain ⟨m0, m1, a0, a1, b0, b1⟩ := key_mul ha hb
  obtain ⟨r0, r1⟩ := key_root ha hb
  simp only [decide_eq_true_eq, decide_eq_false_iff_not, i64_iff]
  unfold lowS
  refine ⟨fun h => ?_, fun h => ?_⟩
  · rw [if_pos h]; exact ⟨by omega, by omega, by omega, trivial, by omega, by omega⟩
  · rw [if_neg h]; omega

theorem sat_high : Sat Try.prog 16 highSp := by
  refine fnwp_sat (C := C2) ss2 5 16 highSp fun (⟨m, a, b⟩ : Int × Int × Int) _ hp => Eq.mpr (high_nf m a b) ?_
  obtain ⟨ha, hb⟩ : keyP a ∧ keyP b := hp
  obtain ⟨m0, m1, a0, a1, b0, b1⟩ := key_mul ha hb
  obtain ⟨r0, r1⟩ := key_root ha hb
  simp only [decide_eq_true_eq, decide_eq_false_iff_not, i64_iff]
  unfold highS
  refine ⟨fun h => ?_, fun h => ?_⟩
  · rw [if_pos h]; exact ⟨by omega, by omega, by omega, trivial, by omega, by omega, by omega⟩
  · rw [if_neg h]; omega

theorem sat_high2 : Sat Try.prog 17 highSp := by
  refine fnwp_sat (C := C2) ss2 5 17 highSp fun (⟨m, a, b⟩ : Int × Int × Int) _ hp => Eq.mpr (high2_nf m a b) ?_
  obtain ⟨ha, hb⟩ : keyP a ∧ keyP b := hp
  obtain ⟨m0, m1, a0, a1, b0, b1⟩ := key_mul ha hb
  obtain ⟨r0, r1⟩ := key_root ha hb
  simp only [decide_eq_true_eq, decide_eq_false_iff_not, i64_iff]
  unfold highS
  refine ⟨by omega, fun h => ?_, fun h => ?_⟩
  · rw [if_pos h]; exact ⟨by omega, by omega, trivial, by omega, by omega⟩
  · rw [if_neg h]; omega

theorem validS_iff (m k : Int) : validS m k = true ↔ 1 ≤ m ∧ m ≤ 3 ∧ 0 ≤ k ∧ k ≤ 134217728 := by
  unfold validS
  have e : (2 : Int) ^ 27 = 134217728 := by decide
  rw [e]
  simp

theorem sat_valid : Sat Try.prog 31 validSp := by
  refine fnwp_sat (C := C2) ss2 5 31 validSp fun (⟨m, a⟩ : Int × Int) _ _ => Eq.mpr (valid_nf m a) ?_
  simp only [decide_eq_true_eq, decide_eq_false_iff_not]
  refine ⟨fun h1 => ⟨fun h2 => ?_, fun h2 => ?_⟩, fun h1 => ?_⟩ <;> rw [Bool.eq_iff_iff, validS_iff] <;> simp <;> omega

theorem sat_valid2 : Sat Try.prog 27 validSp := by
  refine fnwp_sat (C := C2) ss2 5 27 validSp fun (⟨m, a⟩ : Int × Int) _ _ => Eq.mpr (valid2_nf m a) ?_
  simp only [decide_eq_true_eq, decide_eq_false_iff_not]
  refine ⟨fun h1 => ⟨fun h2 => ⟨fun h3 => ?_, fun h3 => ?_⟩, fun h2 => ?_⟩, fun h1 => ?_⟩ <;> rw [Bool.eq_iff_iff, validS_iff] <;> simp <;> omega

theorem ss3 : SpecSound C3 := by
  intro g sp h
  simp only [C3] at h
  split at h
  · rename_i hg; subst hg; simp at h; subst h; exact sat_low
  · split at h
    · rename_i hg; subst hg; simp at h; subst h; exact sat_low2
    · split at h
      · rename_i hg; subst hg; simp at h; subst h; exact sat_high
      · split at h
        · rename_i hg; subst hg; simp at h; subst h; exact sat_high2
        · cases h

theorem low_bounds {m a b : Int} (ha : keyP a) (hb : keyP b) : 0 ≤ lowS m a b ∧ lowS m a b ≤ max a b ∧ max a b ≤ highS m a b ∧ highS m a b ≤ 134217728 := by
  obtain ⟨m0, m1, a0, a1, b0, b1⟩ := key_mul ha hb
  obtain ⟨r0, r1⟩ := key_root ha hb
  unfold lowS highS
  have e : (2 : Int) ^ 27 = 134217728 := by decide
  rw [e]
  split <;> omega

theorem sat_tri : Sat Try.prog 18 triSp := by
  refine fnwp_sat (C := C3) ss3 5 18 triSp fun (⟨m, a, b, c⟩ : Int × Int × Int × Int) _ hp => Eq.mpr (tri_nf m a b c) ?_
  obtain ⟨ha, hb⟩ : keyP a ∧ keyP b := hp
  have := low_bounds (m := m) ha hb
  refine ⟨⟨ha, hb⟩, ⟨ha, hb⟩, ?_⟩
  rw [Bool.eq_iff_iff]
  simp only [decide_eq_true_eq]
  omega

theorem sat_tri2 : Sat Try.prog 19 triSp := by
  refine fnwp_sat (C := C3) ss3 5 19 triSp fun (⟨m, a, b, c⟩ : Int × Int × Int × Int) _ hp => Eq.mpr (tri2_nf m a b c) ?_
  obtain ⟨ha, hb⟩ : keyP a ∧ keyP b := hp
  simp only [decide_eq_true_eq, decide_eq_false_iff_not]
  refine ⟨⟨ha, hb⟩, fun h => ⟨⟨ha, hb⟩, by simp [h]⟩, fun h => by simp [h]⟩

theorem sat_ring : Sat Try.prog 12 ringSp := by
  refine fnwp_sat (C := C3) ss3 5 12 ringSp fun (⟨m, a, t⟩ : Int × Int × Int) _ hp => Eq.mpr (ring_nf m a t) ?_
  obtain ⟨ha, hb⟩ : keyP a ∧ keyP t := hp
  simp only [decide_eq_true_eq, decide_eq_false_iff_not]
  refine ⟨fun h => ⟨⟨ha, hb⟩, ⟨ha, hb⟩, ?_⟩, fun h => ⟨⟨ha, hb⟩, ?_⟩⟩
  · cases t.decLt a with
    | isTrue _ => rfl
    | isFalse h' => exact absurd h h'
  · cases t.decLt a with
    | isTrue h' => exact absurd h' h
    | isFalse _ => rfl

theorem key_clamp {a b c : Int} (ha : keyP a) (hb : keyP b) (hc : keyP c) : keyP (max a (min c b)) := by
  unfold keyP at *
  omega

theorem sat_gap : Sat Try.prog 20 gapSp := by
  refine fnwp_sat (C := C3) ss3 5 20 gapSp fun (⟨m, a, b, c⟩ : Int × Int × Int × Int) _ hp => Eq.mpr (gap_nf m a b c) ?_
  obtain ⟨ha, hb, hc⟩ : keyP a ∧ keyP b ∧ keyP c := hp
  exact ⟨⟨hc, key_clamp ha hb hc⟩, rfl⟩

theorem sat_reach : Sat Try.prog 22 reachSp := by
  refine fnwp_sat (C := C3) ss3 5 22 reachSp fun (⟨m, a, b, c⟩ : Int × Int × Int × Int) _ hp => Eq.mpr (reach_nf m a b c) ?_
  obtain ⟨_, hb, hc⟩ : keyP a ∧ keyP b ∧ keyP c := hp
  exact ⟨⟨hc, hb⟩, rfl⟩

theorem sat_ball : Sat Try.prog 24 ballSp := by
  refine fnwp_sat (C := C3) ss3 5 24 ballSp fun (⟨m, a, b, c⟩ : Int × Int × Int × Int) _ hp => Eq.mpr (ball_nf m a b c) ?_
  exact ⟨hp, rfl⟩

theorem sat_ball2 : Sat Try.prog 25 ballSp := by
  refine fnwp_sat (C := C3) ss3 5 25 ballSp fun (⟨m, a, b, c⟩ : Int × Int × Int × Int) _ hp => Eq.mpr (ball2_nf m a b c) ?_
  exact ⟨hp, rfl⟩

end Go.Proofs.Ytohbapfijafecaa
