import Derived.Test.YtjppchomonpfgaaTi
--@drop
namespace Go.Proofs.Ytjppchomonpfgaa
open Go.AM Go.PL

theorem ss2 : SpecSound C2 := mkctx_sound ⟨sat_isqrt,
  sat_isqrt2,
  trivial⟩ trivial

/-- The bounds of keys. -/
theorem key_mul {a b : Int} (ha : keyP a) (hb : keyP b) : 0 ≤ 4 * a * b ∧ 4 * a * b ≤ 72057594037927936 ∧ 0 ≤ a ∧ a ≤ 134217728 ∧ 0 ≤ b ∧ b ≤ 134217728 := by
  obtain ⟨a0, a1⟩ := ha
  obtain ⟨b0, b1⟩ := hb
  have e : (2 : Int) ^ 27 = 134217728 := by decide
  rw [e] at a1 b1
  have h1 : 0 ≤ 4 * a * b := Int.mul_nonneg (by omega) b0
  have h2 : 4 * a * b ≤ 536870912 * 134217728 := Int.mul_le_mul (by omega) b1 b0 (by omega)
  omega

/-- What is known of the root of the product. -/
theorem key_root {a b : Int} (ha : keyP a) (hb : keyP b) : 2 * min a b ≤ isq (4 * a * b) ∧ isq (4 * a * b) ≤ a + b := by
  obtain ⟨m0, m1, a0, a1, b0, b1⟩ := key_mul ha hb
  obtain ⟨r0, r1, r2⟩ := isq_spec m0 (n := 4 * a * b) (by omega)
  constructor
  · refine sq_inj r0 ?_
    have h1 : (2 * min a b) * (2 * min a b) ≤ 2 * a * (2 * b) := Int.mul_le_mul (by omega) (by omega) (by omega) (by omega)
    have e : 2 * a * (2 * b) = 4 * a * b := by
      rw [Int.mul_left_comm, ← Int.mul_assoc, ← Int.mul_assoc]
      rfl
    omega
  · refine sq_inj (by omega) ?_
    have h0 : 0 ≤ (a - b) * (a - b) := by
      rcases Int.le_total 0 (a - b) with h' | h'
      · exact Int.mul_nonneg h' h'
      · exact Int.mul_nonneg_of_nonpos_of_nonpos h' h'
    have e1 : (a + b) * (a + b) = (a - b) * (a - b) + 4 * a * b := by
      simp only [Int.add_mul, Int.mul_add, Int.sub_mul, Int.mul_sub, Int.mul_comm b a, Int.mul_assoc]
      omega
    have h3 : (a + b + 1) * (a + b + 1) = (a + b) * (a + b) + 2 * (a + b) + 1 := by
      generalize a + b = s
      simp only [Int.add_mul, Int.mul_add]
      omega
    omega

theorem sat_low : Sat Try.prog 51 lowSp := by
  refine sat_nf (C := C2) ss2 (fun x => low_nf x.1 x.2.1 x.2.2) fun (⟨m, a, b⟩ : Int × Int × Int) _ hp => ?_
  try dsimp only
  obtain ⟨ha, hb⟩ : keyP a ∧ keyP b := hp
  obtain ⟨m0, m1, a0, a1, b0, b1⟩ := key_mul ha hb
  obtain ⟨r0, r1⟩ := key_root ha hb
  simp only [decide_eq_true_eq, decide_eq_false_iff_not, i64_iff]
  unfold lowS
  refine ⟨fun h => ?_, fun h => ?_⟩
  · rw [if_pos h]; exact ⟨by omega, by omega, by omega, trivial, by omega, by omega, by omega⟩
  · rw [if_neg h]; omega

theorem sat_low2 : Sat Try.prog 53 lowSp := by
  refine sat_nf (C := C2) ss2 (fun x => low2_nf x.1 x.2.1 x.2.2) fun (⟨m, a, b⟩ : Int × Int × Int) _ hp => ?_
  try dsimp only
  obtain ⟨ha, hb⟩ : keyP a ∧ keyP b := hp
  obtain ⟨m0, m1, a0, a1, b0, b1⟩ := key_mul ha hb
  obtain ⟨r0, r1⟩ := key_root ha hb
  simp only [decide_eq_true_eq, decide_eq_false_iff_not, i64_iff]
  unfold lowS
  refine ⟨fun h => ?_, fun h => ?_⟩
  · rw [if_pos h]; exact ⟨by omega, by omega, by omega, trivial, by omega, by omega⟩
  · rw [if_neg h]; omega

theorem sat_high : Sat Try.prog 52 highSp := by
  refine sat_nf (C := C2) ss2 (fun x => high_nf x.1 x.2.1 x.2.2) fun (⟨m, a, b⟩ : Int × Int × Int) _ hp => ?_
  try dsimp only
  obtain ⟨ha, hb⟩ : keyP a ∧ keyP b := hp
  obtain ⟨m0, m1, a0, a1, b0, b1⟩ := key_mul ha hb
  obtain ⟨r0, r1⟩ := key_root ha hb
  simp only [decide_eq_true_eq, decide_eq_false_iff_not, i64_iff]
  unfold highS
  refine ⟨fun h => ?_, fun h => ?_⟩
  · rw [if_pos h]; exact ⟨by omega, by omega, by omega, trivial, by omega, by omega, by omega⟩
  · rw [if_neg h]; omega

theorem sat_high2 : Sat Try.prog 54 highSp := by
  refine sat_nf (C := C2) ss2 (fun x => high2_nf x.1 x.2.1 x.2.2) fun (⟨m, a, b⟩ : Int × Int × Int) _ hp => ?_
  try dsimp only
  obtain ⟨ha, hb⟩ : keyP a ∧ keyP b := hp
  obtain ⟨m0, m1, a0, a1, b0, b1⟩ := key_mul ha hb
  obtain ⟨r0, r1⟩ := key_root ha hb
  simp only [decide_eq_true_eq, decide_eq_false_iff_not, i64_iff]
  unfold highS
  refine ⟨by omega, fun h => ?_, fun h => ?_⟩
  · rw [if_pos h]; exact ⟨by omega, by omega, trivial, by omega, by omega⟩
  · rw [if_neg h]; omega

theorem mValS_iff (m k : Int) : mValS m k = true ↔ 1 ≤ m ∧ m ≤ 3 ∧ 0 ≤ k ∧ k ≤ 134217728 := by
  unfold mValS
  have e : (2 : Int) ^ 27 = 134217728 := by decide
  rw [e]
  simp

theorem ss3 : SpecSound C3 := mkctx_sound ⟨sat_low, sat_high,
  sat_low2, sat_high2,
  trivial⟩ trivial

theorem low_bounds {m a b : Int} (ha : keyP a) (hb : keyP b) : 0 ≤ lowS m a b ∧ lowS m a b ≤ max a b ∧ max a b ≤ highS m a b ∧ highS m a b ≤ 134217728 := by
  obtain ⟨m0, m1, a0, a1, b0, b1⟩ := key_mul ha hb
  obtain ⟨r0, r1⟩ := key_root ha hb
  unfold lowS highS
  have e : (2 : Int) ^ 27 = 134217728 := by decide
  rw [e]
  split <;> omega

theorem key_clamp {a b c : Int} (ha : keyP a) (hb : keyP b) (hc : keyP c) : keyP (max a (min c b)) := by
  unfold keyP at *
  omega

end Go.Proofs.Ytjppchomonpfgaa
