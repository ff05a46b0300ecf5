import Derived.Test.YtjppchomonpfgaaTj
--@drop
namespace Go.Proofs.Ytjppchomonpfgaa
open Go.AM Go.PL
set_option linter.unusedVariables false

theorem le_isq {N x : Int} (h0 : 0 ≤ N) (h1 : N ≤ 1152921504606846976) : x ≤ isq N ↔ x ≤ 0 ∨ x * x ≤ N := by
  obtain ⟨r0, r1, r2⟩ := isq_spec h0 (by omega)
  constructor
  · intro h
    rcases Int.le_total x 0 with h' | h'
    · exact .inl h'
    · exact .inr (by have := sq_mono h' h; omega)
  · rintro (h | h)
    · omega
    · exact sq_inj r0 (by omega)

theorem sq_sub (a b t : Int) : (a + b - t) * (a + b - t) - 4 * a * b = (b - a - t) * (b - a - t) - 4 * a * t := by
  simp only [Int.add_mul, Int.mul_add, Int.sub_mul, Int.mul_sub, Int.mul_comm b a, Int.mul_comm t a, Int.mul_comm t b, Int.mul_assoc]
  omega

theorem sq_neg (x y : Int) : (x - y) * (x - y) = (y - x) * (y - x) := by
  rw [← Int.neg_sub y x, Int.neg_mul_neg]

/-- What is in the ring. -/
theorem ring_iff {m a b t : Int} (ha : keyP a) (hb : keyP b) (ht : keyP t) : lowS m a b ≤ t ↔ (if t < a then lowS m a t else 0) ≤ b ∧ b ≤ highS m a t := by
  obtain ⟨m0, m1, a0, a1, b0, b1⟩ := key_mul ha hb
  obtain ⟨n0, n1, _, _, t0, t1⟩ := key_mul ha ht
  have e : (2 : Int) ^ 27 = 134217728 := by decide
  unfold lowS highS
  rw [e]
  by_cases hm : m = 2
  · rw [if_pos hm, if_pos hm, if_pos hm]
    have l1 : a + b - isq (4 * a * b) ≤ t ↔ a + b - t ≤ 0 ∨ (a + b - t) * (a + b - t) ≤ 4 * a * b := by
      rw [← le_isq m0 (by omega)]; omega
    have l2 : b ≤ a + t + isq (4 * a * t) ↔ b - a - t ≤ 0 ∨ (b - a - t) * (b - a - t) ≤ 4 * a * t := by
      rw [← le_isq n0 (by omega)]; omega
    have l3 : a + t - isq (4 * a * t) ≤ b ↔ a + t - b ≤ 0 ∨ (a + t - b) * (a + t - b) ≤ 4 * a * t := by
      rw [← le_isq n0 (by omega)]; omega
    have hs := sq_sub a b t
    have hs2 : (a + t - b) * (a + t - b) = (b - a - t) * (b - a - t) := by
      rw [sq_neg]
      congr 1 <;> omega
    rw [l1, show (b ≤ min (a + t + isq (4 * a * t)) 134217728 ↔ b ≤ a + t + isq (4 * a * t)) by omega, l2]
    generalize hD : (b - a - t) * (b - a - t) = D at *
    generalize (a + b - t) * (a + b - t) = E at *
    by_cases hq : D ≤ 4 * a * t
    · constructor
      · intro _
        refine ⟨?_, .inr hq⟩
        split
        · rw [l3, hs2]; exact .inr hq
        · exact b0
      · intro _
        exact .inr (by omega)
    · by_cases hta : t < a
      · rw [if_pos hta, l3, hs2]
        constructor
        · rintro (h | h) <;> omega
        · rintro ⟨h1 | h1, h2 | h2⟩
          · exfalso
            have : b - a - t = 0 := by omega
            rw [this] at hD
            simp at hD
            omega
          all_goals omega
      · rw [if_neg hta]
        constructor
        · rintro (h | h)
          · exact ⟨b0, .inl (by omega)⟩
          · omega
        · rintro ⟨_, h2 | h2⟩
          · left
            rcases Int.lt_or_le 0 (a + b - t) with h | h
            · exfalso
              have h3 : (a + t - b) * (a + t - b) ≤ (2 * a) * (2 * a) := sq_mono (by omega) (by omega)
              have h4 : (2 * a) * (2 * a) ≤ 4 * a * t := by
                have : 4 * a * a ≤ 4 * a * t := Int.mul_le_mul_of_nonneg_left (by omega) (by omega)
                have e : (2 * a) * (2 * a) = 4 * a * a := by
                  rw [Int.mul_assoc, Int.mul_left_comm a 2 a, ← Int.mul_assoc, ← Int.mul_assoc]
                  rfl
                omega
              omega
            · exact h
          · omega
  · rw [if_neg hm, if_neg hm, if_neg hm]
    split <;> omega

theorem keyP_iff {n : Int} : keyP n ↔ 0 ≤ n ∧ n ≤ 134217728 := by
  unfold keyP
  rw [show (2 : Int) ^ 27 = 134217728 by decide]

theorem mul4_comm (a b : Int) : 4 * a * b = 4 * b * a := by rw [Int.mul_assoc, Int.mul_comm a b, ← Int.mul_assoc]
theorem low_comm (m a b : Int) : lowS m a b = lowS m b a := by
  unfold lowS
  rw [mul4_comm a b]
  split <;> omega
theorem high_comm (m a b : Int) : highS m a b = highS m b a := by
  unfold highS
  rw [mul4_comm a b, Int.add_comm a b]
theorem isq_sq {x : Int} (h0 : 0 ≤ x) (h1 : x ≤ 1073741824) : isq (x * x) = x := by
  refine isq_eq h0 (Int.le_refl _) ?_ ?_
  · have : (x + 1) * (x + 1) = x * x + 2 * x + 1 := by simp only [Int.add_mul, Int.mul_add]; omega
    omega
  · have := sq_mono h0 h1
    have e : (1073741824 : Int) * 1073741824 = 2 ^ 60 := by decide
    omega
theorem low_self {m a : Int} (ha : keyP a) : lowS m a a = 0 := by
  obtain ⟨a0, a1⟩ := keyP_iff.1 ha
  unfold lowS
  split
  · have e : 4 * a * a = (2 * a) * (2 * a) := by
      rw [Int.mul_assoc 2 a, Int.mul_left_comm a 2 a, ← Int.mul_assoc, ← Int.mul_assoc]; rfl
    rw [e, isq_sq (by omega) (by omega)]
    omega
  · omega
theorem isq_zero : isq 0 = 0 := by have := isq_sq (x := 0) (by omega) (by omega); simpa using this
theorem high_zero {m a : Int} (ha : keyP a) : highS m a 0 = a := by
  obtain ⟨a0, a1⟩ := keyP_iff.1 ha
  unfold highS
  rw [show (2 : Int) ^ 27 = 134217728 by decide, Int.mul_zero, isq_zero]
  split <;> omega
theorem low_zero {m a : Int} (ha : keyP a) : lowS m a 0 = a := by
  obtain ⟨a0, a1⟩ := keyP_iff.1 ha
  unfold lowS
  rw [Int.mul_zero, isq_zero]
  split <;> omega
theorem isq_mono {x y : Int} (h0 : 0 ≤ x) (h : x ≤ y) (h1 : y ≤ 1152921504606846976) : isq x ≤ isq y := by
  obtain ⟨a, b, c⟩ := isq_spec h0 (n := x) (by omega)
  rw [le_isq (by omega) h1]
  exact .inr (by omega)
theorem high_mono {m a x y : Int} (ha : keyP a) (hx : keyP x) (hy : keyP y) (h : x ≤ y) : highS m a x ≤ highS m a y := by
  obtain ⟨m0, m1, _⟩ := key_mul ha hx
  obtain ⟨n0, n1, a0, _⟩ := key_mul ha hy
  unfold highS
  have h1 : 4 * a * x ≤ 4 * a * y := Int.mul_le_mul_of_nonneg_left h (by omega)
  have := isq_mono m0 h1 (by omega)
  split <;> omega
theorem high_mono2 {m a b x y : Int} (ha : keyP a) (hb : keyP b) (hx : keyP x) (hy : keyP y) (h : a ≤ b) (h' : x ≤ y) : highS m a x ≤ highS m b y := by
  have h1 := high_mono (m := m) ha hx hy h'
  have h2 := high_mono (m := m) hy ha hb h
  rw [high_comm m y a, high_comm m y b] at h2
  omega
theorem low_keyP {m a b : Int} (ha : keyP a) (hb : keyP b) : keyP (lowS m a b) := by
  obtain ⟨a0, a1⟩ := keyP_iff.1 ha
  obtain ⟨b0, b1⟩ := keyP_iff.1 hb
  have := low_bounds (m := m) ha hb
  rw [keyP_iff]
  omega
/-- Low does not decrease away from a. -/
theorem low_mono_up {m a x y : Int} (ha : keyP a) (hx : keyP x) (hy : keyP y) (h1 : a ≤ x) (h2 : x ≤ y) : lowS m a x ≤ lowS m a y := by
  have ht := low_keyP (m := m) ha hy
  rw [ring_iff ha hx ht]
  have h3 := (ring_iff ha hy ht).1 (Int.le_refl _)
  refine ⟨?_, by omega⟩
  have h4 : (if lowS m a y < a then lowS m a (lowS m a y) else 0) ≤ a := by
    obtain ⟨a0, _⟩ := keyP_iff.1 ha
    have := low_bounds (m := m) ha ht
    split <;> omega
  omega
theorem low_mono_down {m a x y : Int} (ha : keyP a) (hx : keyP x) (hy : keyP y) (h1 : y ≤ a) (h2 : x ≤ y) : lowS m a y ≤ lowS m a x := by
  have ht := low_keyP (m := m) ha hx
  rw [ring_iff ha hy ht]
  have h3 := (ring_iff ha hx ht).1 (Int.le_refl _)
  have := low_bounds (m := m) ha ht
  omega
theorem low_eq_zero {m a z : Int} (ha : keyP a) (hz : keyP z) : lowS m a z = 0 ↔ z = a := by
  have h0 : keyP 0 := by rw [keyP_iff]; omega
  have := low_bounds (m := m) ha hz
  have h1 := ring_iff (m := m) ha hz h0
  rw [low_zero ha, high_zero ha] at h1
  obtain ⟨a0, a1⟩ := keyP_iff.1 ha
  have h2 : (if (0 : Int) < a then a else 0) = a := by split <;> omega
  rw [h2] at h1
  omega
/-- The gap is the least Low. -/
theorem gap_le {m a x y b : Int} (ha : keyP a) (hx : keyP x) (hy : keyP y) (hb : keyP b) (h1 : x ≤ b) (h2 : b ≤ y) : lowS m a (max x (min a y)) ≤ lowS m a b := by
  have := low_bounds (m := m) ha hb
  rcases Int.lt_or_le a x with h | h
  · rw [show max x (min a y) = x by omega]
    exact low_mono_up ha hx hb (by omega) h1
  · rcases Int.lt_or_le y a with h' | h'
    · rw [show max x (min a y) = y by omega]
      exact low_mono_down ha hb hy (by omega) h2
    · rw [show max x (min a y) = a by omega, low_self ha]
      omega

/-- The triangle of three vectors' keys. -/
theorem key_tri1 {m : Int} {p q r : List Int} (h1 : alikeB p q = true) (h2 : alikeB q r = true) :
    lowS m (keyS m p q) (keyS m q r) ≤ keyS m p r ∧ keyS m p r ≤ highS m (keyS m p q) (keyS m q r) := by
  obtain ⟨hp, hq, hl⟩ := alike_iff.1 h1
  obtain ⟨_, hr, hl'⟩ := alike_iff.1 h2
  have h3 : alikeB p r = true := alike_iff.2 ⟨hp, hr, by omega⟩
  have b1 := key_bound m h1
  have b2 := key_bound m h2
  have b3 := key_bound m h3
  unfold lowS highS
  rw [show (2 : Int) ^ 27 = 134217728 by decide]
  by_cases hm : m = 2
  · rw [if_pos hm, if_pos hm]
    have hk : ∀ u v, keyS m u v = n2 (subS u v) := fun u v => by unfold keyS; rw [normS_eq, if_neg (by omega), if_pos hm]
    have hs := n2_split p q r hl hl'
    have hc := cauchy (subS p q) (subS q r)
    rw [← hk, ← hk, ← hk] at hs
    rw [← hk, ← hk] at hc
    generalize keyS m p q = a at *
    generalize keyS m q r = b at *
    generalize keyS m p r = c at *
    generalize dotS (subS p q) (subS q r) = s at *
    have hN : 0 ≤ 4 * a * b := Int.mul_nonneg (by omega) b2.1
    have hN1 : 4 * a * b ≤ 4 * 128000000 * 128000000 := Int.mul_le_mul (by omega) b2.2 b2.1 (by omega)
    have e : (2 * s) * (2 * s) = 4 * (s * s) := by
      rw [Int.mul_assoc, Int.mul_left_comm s 2 s, ← Int.mul_assoc]; rfl
    have e' : 4 * a * b = 4 * (a * b) := Int.mul_assoc _ _ _
    have h4 : 2 * s ≤ isq (4 * a * b) := (le_isq hN (by omega)).2 (.inr (by omega))
    have h5 : -(2 * s) ≤ isq (4 * a * b) := (le_isq hN (by omega)).2 (.inr (by rw [Int.neg_mul_neg]; omega))
    omega
  · rw [if_neg hm, if_neg hm]
    have hk : ∀ u v, keyS m u v = if m = 1 then n1 (subS u v) else n3 (subS u v) := fun u v => by unfold keyS; rw [normS_eq, if_neg hm]
    have t1 := n1_tri p q r hl hl'
    have t2 := n1_tri p r q (by omega) (by omega)
    have t3 := n1_tri q p r (by omega) (by omega)
    have s1 := n3_tri p q r hl hl'
    have s2 := n3_tri p r q (by omega) (by omega)
    have s3 := n3_tri q p r (by omega) (by omega)
    have c1 := n_comm r q
    have c2 := n_comm q p
    rw [hk, hk, hk] at *
    split at b1 <;> simp only [*, if_true, if_false] at * <;> omega

theorem tri_ok {m : Int} {p q r : List Int} (h1 : alikeB p q = true) (h2 : alikeB q r = true) :
    (lowS m (keyS m p q) (keyS m q r) ≤ keyS m p r ∧ keyS m p r ≤ highS m (keyS m p q) (keyS m q r)) ∧
    (lowS m (keyS m p r) (keyS m q r) ≤ keyS m p q ∧ keyS m p q ≤ highS m (keyS m p r) (keyS m q r)) ∧
    (lowS m (keyS m p q) (keyS m p r) ≤ keyS m q r ∧ keyS m q r ≤ highS m (keyS m p q) (keyS m p r)) := by
  obtain ⟨hp, hq, hl⟩ := alike_iff.1 h1
  obtain ⟨_, hr, hl'⟩ := alike_iff.1 h2
  refine ⟨key_tri1 h1 h2, ?_, ?_⟩
  · have := key_tri1 (m := m) (p := p) (q := r) (r := q) (alike_iff.2 ⟨hp, hr, by omega⟩) (alike_iff.2 ⟨hr, hq, by omega⟩)
    rwa [keyS_comm m r q] at this
  · have := key_tri1 (m := m) (p := q) (q := p) (r := r) (alike_iff.2 ⟨hq, hp, by omega⟩) (alike_iff.2 ⟨hp, hr, by omega⟩)
    rwa [keyS_comm m q p] at this

theorem key_keyP {m : Int} {p q : List Int} (h : alikeB p q = true) : keyP (keyS m p q) := by
  have := key_bound m h
  rw [keyP_iff]
  omega

end Go.Proofs.Ytjppchomonpfgaa
