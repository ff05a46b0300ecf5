import Derived.Test.YtohbapfijafecaaMl
namespace Go.Proofs.Ytohbapfijafecaa
open Go.AM Go.PL
set_option linter.unusedVariables false

theorem sat_law1 : Sat Try.prog 3 (lawSp [I, I, I, I]) := by
  refine fnwp_sat (C := L1) (ctxh_sound satL) 5 3 (lawSp [I, I, I, I]) fun (⟨m, a, b, c⟩ : Int × Int × Int × Int) _ _ => Eq.mpr (law1_nf m a b c) ?_
  refine ⟨trivial, fun _ => ⟨trivial, rfl⟩, fun h => ?_⟩
  obtain ⟨hm, ha, hb, hc⟩ := keysB_iff.1 (by simpa using h : keysB m a b c = true)
  have hx : keyP (min b c) := by rw [keyP_iff] at *; omega
  have hy : keyP (max b c) := by rw [keyP_iff] at *; omega
  have hmono := high_mono (m := m) ha hx hy (by omega)
  have h0 := low_self (m := m) ha
  have h1 : ¬ highS m a (max b c) < highS m a (min b c) := by omega
  have e1 : a < min b c → max (min b c) (min a (max b c)) = min b c := by omega
  have e2 : ¬ a < min b c → max b c < a → max (min b c) (min a (max b c)) = max b c := by omega
  have e3 : ¬ a < min b c → ¬ max b c < a → max (min b c) (min a (max b c)) = a := by omega
  by_cases c1 : a < min b c
  · have e := e1 c1
    simp [ha, hb, hc, hx, hy, h1, c1, e]
  · by_cases c2 : max b c < a
    · have e := e2 c1 c2
      simp [ha, hb, hc, hx, hy, h1, c1, c2, e]
    · have e := e3 c1 c2
      simp [ha, hb, hc, hx, hy, h1, c1, c2, e, h0]

theorem sat_law2 : Sat Try.prog 4 (lawSp [I, L, L, L]) := by
  refine fnwp_sat (C := L2) (ctxh_sound satL) 5 4 (lawSp [I, L, L, L]) fun (⟨m, p, q, r⟩ : Int × List Int × List Int × List Int) _ _ => Eq.mpr (law2_nf m p q r) ?_
  refine ⟨trivial, trivial, fun _ => ⟨trivial, rfl⟩, fun h1 => ⟨fun _ => ⟨trivial, rfl⟩, fun h2 => ⟨trivial, fun _ => ⟨trivial, rfl⟩, fun h3 => ?_⟩⟩⟩
  have h1 : alikeB p q = true := by simpa using h1
  have h2 : alikeB q r = true := by simpa using h2
  obtain ⟨hp, hq, hl⟩ := alike_iff.1 h1
  obtain ⟨_, hr, hl'⟩ := alike_iff.1 h2
  have h4 : alikeB p r = true := alike_iff.2 ⟨hp, hr, by omega⟩
  have sp := vec_small hp (k := 64) (c := 4000) (by omega) (by omega)
  have sq := vec_small hq (k := 64) (c := 4000) (by omega) (by omega)
  have sr := vec_small hr (k := 64) (c := 4000) (by omega) (by omega)
  have k1 := key_keyP (m := m) h1
  have k2 := key_keyP (m := m) h2
  have k3 := key_keyP (m := m) h4
  obtain ⟨t1, t2, t3⟩ := tri_ok (m := m) h1 h2
  have n1 : ¬ keyS m p r < lowS m (keyS m p q) (keyS m q r) := by omega
  have n2 : ¬ highS m (keyS m p q) (keyS m q r) < keyS m p r := by omega
  simp [sp, sq, sr, hl, hl', k1, k2, k3, n1, n2, t1.1, t1.2, t2.1, t2.2, t3.1, t3.2]

theorem sat_law4 : Sat Try.prog 6 (lawSp [I, I, I, I]) := by
  refine fnwp_sat (C := L4) (ctxh_sound satL) 5 6 (lawSp [I, I, I, I]) fun (⟨m, a, t, b⟩ : Int × Int × Int × Int) _ _ => Eq.mpr (law4_nf m a t b) ?_
  refine ⟨trivial, fun _ => ⟨trivial, rfl⟩, fun h => ?_⟩
  obtain ⟨hm, ha, ht, hb⟩ := keysB_iff.1 (by simpa using h : keysB m a t b = true)
  have hx : keyP (min t b) := by rw [keyP_iff] at *; omega
  have hy : keyP (max t b) := by rw [keyP_iff] at *; omega
  have h0 : keyP 0 := by rw [keyP_iff]; omega
  have hz : keyP (max (min t b) (min a (max t b))) := by rw [keyP_iff] at *; omega
  obtain ⟨a0, a1⟩ := keyP_iff.1 ha
  obtain ⟨t0, t1⟩ := keyP_iff.1 ht
  have lb := low_bounds (m := m) ha ht
  have hr := ring_iff (m := m) ha hb ht
  have lz := low_zero (m := m) ha
  have hz0 := high_zero (m := m) ha
  have gz := low_eq_zero (m := m) ha hz
  have e1 : (if (0 : Int) < a then lowS m a 0 else 0) = a := by rw [lz]; split <;> omega
  rw [e1, hz0]
  generalize hlo : (if t < a then lowS m a t else 0) = lo at *
  have l0 : ¬ lo < 0 := by rw [← hlo]; split <;> omega
  have l1 : ¬ 134217728 < highS m a t := by omega
  have l2 : ¬ a < lo := by rw [← hlo]; split <;> omega
  have l3 : ¬ highS m a t < a := by omega
  simp only [decide_eq_true_eq, decide_eq_false_iff_not]
  refine ⟨⟨ha, ht⟩, l0, l1, l2, fun h => absurd h l3, fun _ => ⟨fun c1 => ⟨⟨ha, h0⟩, fun c2 => ⟨trivial, trivial, ⟨ha, hb⟩, ?_, ⟨hx, hy, ha⟩, ?_⟩, fun c2 => ⟨trivial, trivial, ⟨ha, hb⟩, ?_, ⟨hx, hy, ha⟩, ?_⟩⟩,
    fun c1 => ⟨⟨ha, h0⟩, fun c2 => ⟨trivial, trivial, ⟨ha, hb⟩, ?_, ⟨hx, hy, ha⟩, ?_⟩, fun c2 => ⟨trivial, trivial, ⟨ha, hb⟩, ?_, ⟨hx, hy, ha⟩, ?_⟩⟩⟩⟩ <;> rw [beq_iff_eq]
  · rw [decide_eq_decide, hr]; omega
  · rw [decide_eq_decide, gz]; omega
  · rw [decide_eq_decide, hr]; omega
  · rw [decide_eq_false_iff_not, gz]; omega
  · rw [eq_comm, decide_eq_false_iff_not, hr]; omega
  · rw [decide_eq_decide, gz]; omega
  · rw [eq_comm, decide_eq_false_iff_not, hr]; omega
  · rw [decide_eq_false_iff_not, gz]; omega

theorem sat_law5 : Sat Try.prog 7 (lawSp [I, I, I, I]) := by
  refine fnwp_sat (C := L5) (ctxh_sound satL) 5 7 (lawSp [I, I, I, I]) fun (⟨m, a, b, c⟩ : Int × Int × Int × Int) _ _ => Eq.mpr (law5_nf m a b c) ?_
  refine ⟨trivial, fun _ => ⟨trivial, rfl⟩, fun h => ?_⟩
  obtain ⟨hm, ha, hb, hc⟩ := keysB_iff.1 (by simpa using h : keysB m a b c = true)
  have hx : keyP (min b c) := by rw [keyP_iff] at *; omega
  have hy : keyP (max b c) := by rw [keyP_iff] at *; omega
  have h0 : keyP 0 := by rw [keyP_iff]; omega
  have p1 := low_comm m b a
  have p2 := high_comm m b a
  have p3 := low_self (m := m) ha
  have p4 := high_zero (m := m) ha
  have p5 : ¬ highS m a (max b c) < highS m a (min b c) := by have := high_mono (m := m) ha hx hy (by omega); omega
  have p6 : a ≤ min b c → ¬ lowS m a (max b c) < lowS m a (min b c) := fun h => by have := low_mono_up (m := m) ha hx hy h (by omega); omega
  have p7 : max b c ≤ a → ¬ lowS m a (min b c) < lowS m a (max b c) := fun h => by have := low_mono_down (m := m) ha hx hy h (by omega); omega
  have q1 := gap_le (m := m) ha hx hy hb (by omega) (by omega)
  have q2 := gap_le (m := m) ha hx hy hc (by omega) (by omega)
  have q3 := high_mono (m := m) ha hb hy (by omega)
  have q4 := high_mono (m := m) ha hc hy (by omega)
  by_cases c1 : a ≤ min b c
  · by_cases c2 : max b c ≤ a
    · have d1 := p6 c1; have d2 := p7 c2
      simp [ha, hb, hc, hx, hy, h0, p1, p2, p3, p4, p5, c1, c2, d1, d2, q1, q2, q3, q4]
    · have d1 := p6 c1
      simp [ha, hb, hc, hx, hy, h0, p1, p2, p3, p4, p5, c1, c2, d1, q1, q2, q3, q4]
  · by_cases c2 : max b c ≤ a
    · have d2 := p7 c2
      simp [ha, hb, hc, hx, hy, h0, p1, p2, p3, p4, p5, c1, c2, d2, q1, q2, q3, q4]
    · simp [ha, hb, hc, hx, hy, h0, p1, p2, p3, p4, p5, c1, c2, q1, q2, q3, q4]

theorem sat_law6 : Sat Try.prog 8 (lawSp [I, L, L, L, I, I]) := by
  refine fnwp_sat (C := L6) (ctxh_sound satL) 5 8 (lawSp [I, L, L, L, I, I]) fun (⟨m, p, q, x, r, s⟩ : Int × List Int × List Int × List Int × Int × Int) _ _ => Eq.mpr (law6_nf m p q x r s) ?_
  refine ⟨trivial, trivial, fun _ => ⟨trivial, rfl⟩, fun h1 => ⟨fun _ => ⟨trivial, rfl⟩, fun h2 => ⟨trivial, fun _ => ⟨trivial, rfl⟩, fun h3 => ?_⟩⟩⟩
  have h1 : alikeB p q = true := by simpa using h1
  have h2 : alikeB q x = true := by simpa using h2
  obtain ⟨hm, hr, hs, _⟩ := keysB_iff.1 (by simpa using h3 : keysB m r s 0 = true)
  obtain ⟨hp, hq, hl⟩ := alike_iff.1 h1
  obtain ⟨_, hx, hl'⟩ := alike_iff.1 h2
  have h4 : alikeB p x = true := alike_iff.2 ⟨hp, hx, by omega⟩
  have sp := vec_small hp (k := 64) (c := 4000) (by omega) (by omega)
  have sq := vec_small hq (k := 64) (c := 4000) (by omega) (by omega)
  have sx := vec_small hx (k := 64) (c := 4000) (by omega) (by omega)
  have k2 := key_keyP (m := m) h2
  have k3 := key_keyP (m := m) h4
  obtain ⟨_, t2, _⟩ := tri_ok (m := m) h1 h2
  refine ⟨⟨sp, sq, hl⟩, ⟨sp, sx, by omega⟩, ⟨sq, sx, hl'⟩, fun c1 => ⟨fun c2 => ⟨trivial, rfl, ⟨hr, hs⟩, ?_⟩, fun c2 => ⟨trivial, rfl, ⟨hr, hs⟩, ⟨hr, hs⟩, by simp⟩⟩, fun c1 => ⟨trivial, rfl, ⟨hr, hs⟩, ⟨hr, hs⟩, by simp⟩⟩
  have := high_mono2 (m := m) k3 hr k2 hs (by simpa using c1) (by simpa using c2)
  rw [decide_eq_true_eq]
  omega

theorem sat_law7 : Sat Try.prog 9 (lawSp [I, I]) := by
  refine fnwp_sat (C := L7) (ctxh_sound satL) 5 9 (lawSp [I, I]) fun (⟨n, m⟩ : Int × Int) _ _ => Eq.mpr (law7_nf n m) ?_
  obtain ⟨h0, h1, h2⟩ := isq_max n _ rfl
  have hb := isq_le n
  rw [show (2 : Int) ^ 30 = 1073741824 by decide] at hb
  have h3 := sq_mono (a := isq n + 1) (b := 1073741825) (by omega) (by omega)
  rw [show (1073741825 : Int) * 1073741825 = 1152921506754330625 by decide] at h3
  have h4 := sq_nonneg (isq n)
  generalize isq n = r at *
  generalize (r + 1) * (r + 1) = s at *
  generalize r * r = u at *
  simp only [decide_eq_true_eq, decide_eq_false_iff_not, i64_iff]
  refine ⟨trivial, fun c1 => ⟨fun c2 => (by cases c2), fun _ => ?_⟩, fun c1 => ⟨fun c2 => ?_, fun c2 => ?_⟩⟩ <;>
    exact ⟨by omega, by omega, by omega, by omega, by omega, by omega, by omega, by omega, fun _ => ⟨trivial, trivial, trivial, trivial, by simp⟩⟩

theorem keyOf_keyP {m d : Int} (h0 : 0 ≤ d) (h1 : d ≤ 11585) : keyP (keyOf m d) := by
  rw [keyP_iff]
  unfold keyOf
  have := sq_mono h0 h1
  have := sq_nonneg d
  rw [show (11585 : Int) * 11585 = 134212225 by decide] at *
  split <;> omega

theorem sat_law3 : Sat Try.prog 5 (lawSp [I, I, I]) := by
  refine fnwp_sat (C := L3) (ctxh_sound satL) 5 5 (lawSp [I, I, I]) fun (⟨m, d, e⟩ : Int × Int × Int) _ _ => Eq.mpr (law3_nf m d e) ?_
  refine ⟨trivial, fun _ => ⟨trivial, rfl⟩, fun _ => ⟨fun _ => ⟨trivial, rfl⟩, fun c1 => ⟨fun _ => ⟨trivial, rfl⟩, fun c2 => ⟨fun _ => ⟨trivial, rfl⟩, fun c3 => ⟨fun _ => ⟨trivial, rfl⟩, fun c4 => ?_⟩⟩⟩⟩⟩
  simp only [decide_eq_false_iff_not] at c1 c2 c3 c4
  have k1 := keyOf_keyP (m := m) (d := d) (by omega) (by omega)
  have k2 := keyOf_keyP (m := m) (d := e) (by omega) (by omega)
  have hlo : lowS m (keyOf m d) (keyOf m e) = keyOf m (max d e - min d e) := by
    unfold lowS keyOf
    split
    · have e1 : 4 * (d * d) * (e * e) = (2 * (d * e)) * (2 * (d * e)) := by
        rw [Int.mul_assoc 2 (d * e), Int.mul_left_comm (d * e) 2, ← Int.mul_assoc 2 2, Int.mul_assoc 4]
        congr 1
        rw [Int.mul_assoc d d, Int.mul_assoc d e, Int.mul_left_comm e d e]
      have h1 : 0 ≤ d * e := Int.mul_nonneg (by omega) (by omega)
      have h2 : d * e ≤ 11585 * 11585 := Int.mul_le_mul (by omega) (by omega) (by omega) (by omega)
      rw [e1, isq_sq (by omega) (by omega)]
      have e2 : (max d e - min d e) * (max d e - min d e) = (d - e) * (d - e) := by
        rcases Int.le_total d e with h | h
        · rw [show max d e - min d e = e - d by omega, ← Int.neg_sub d e, Int.neg_mul_neg]
        · rw [show max d e - min d e = d - e by omega]
      rw [e2]
      simp only [Int.sub_mul, Int.mul_sub, Int.mul_comm e d]
      omega
    · omega
  have hhi : highS m (keyOf m d) (keyOf m e) = min (keyOf m (d + e)) 134217728 := by
    unfold highS keyOf
    rw [show (2 : Int) ^ 27 = 134217728 by decide]
    split
    · have e1 : 4 * (d * d) * (e * e) = (2 * (d * e)) * (2 * (d * e)) := by
        rw [Int.mul_assoc 2 (d * e), Int.mul_left_comm (d * e) 2, ← Int.mul_assoc 2 2, Int.mul_assoc 4]
        congr 1
        rw [Int.mul_assoc d d, Int.mul_assoc d e, Int.mul_left_comm e d e]
      have h1 : 0 ≤ d * e := Int.mul_nonneg (by omega) (by omega)
      have h2 : d * e ≤ 11585 * 11585 := Int.mul_le_mul (by omega) (by omega) (by omega) (by omega)
      rw [e1, isq_sq (by omega) (by omega)]
      have e2 : (d + e) * (d + e) = d * d + e * e + 2 * (d * e) := by
        simp only [Int.add_mul, Int.mul_add, Int.mul_comm e d]
        omega
      rw [e2]
    · rfl
  simp only [decide_eq_true_eq, decide_eq_false_iff_not, i64_iff]
  refine ⟨by omega, by omega, fun c5 => ⟨trivial, trivial, by omega, by omega, ⟨k1, k2⟩, by omega, by omega, hlo, by omega, by omega, ⟨k1, k2⟩, by rw [hhi]; omega⟩, fun c5 => ⟨trivial, trivial, by omega, by omega, ⟨k1, k2⟩, by omega, by omega, hlo, by omega, by omega, ⟨k1, k2⟩, by rw [hhi]; omega⟩⟩
end Go.Proofs.Ytohbapfijafecaa
