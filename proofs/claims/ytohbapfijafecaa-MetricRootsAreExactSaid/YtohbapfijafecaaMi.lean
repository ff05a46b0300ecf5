import Derived.Test.YtohbapfijafecaaMh
namespace Go.Proofs.Ytohbapfijafecaa
open Go.AM Go.PL
set_option linter.unusedVariables false

theorem le_isq {N x : Int} (h0 : 0 ≤ N) (h1 : N ≤ 1152921504606846976) : x ≤ isq N ↔ x ≤ 0 ∨ x * x ≤ N := by
  obtain ⟨r0, r1, r2⟩ := isq_spec h0 (by omega)
  constructor
  · intro h
    rcases Int.le_total x 0 with h' | h'
    · exact .inl h'
    · exact .inr (by have := sq_mono h' h; omega)
  · rintro (h | h)
    · omega
    · exact sq_inj r0 (by omega)

theorem sq_sub (a b t : Int) : (a + b - t) * (a + b - t) - 4 * a * b = (b - a - t) * (b - a - t) - 4 * a * t := by
  simp only [Int.add_mul, Int.mul_add, Int.sub_mul, Int.mul_sub, Int.mul_comm b a, Int.mul_comm t a, Int.mul_comm t b, Int.mul_assoc]
  omega

theorem sq_neg (x y : Int) : (x - y) * (x - y) = (y - x) * (y - x) := by
  rw [← Int.neg_sub y x, Int.neg_mul_neg]

/-- What is in the ring. -/
theorem ring_iff {m a b t : Int} (ha : keyP a) (hb : keyP b) (ht : keyP t) : lowS m a b ≤ t ↔ (if t < a then lowS m a t else 0) ≤ b ∧ b ≤ highS m a t := by
  obtain ⟨m0, m1, a0, a1, b0, b1⟩ := key_mul ha hb
  obtain ⟨n0, n1, _, _, t0, t1⟩ := key_mul ha ht
  have e : (2 : Int) ^ 27 = 134217728 := by decide
  unfold lowS highS
  rw [e]
  by_cases hm : m = 2
  · rw [if_pos hm, if_pos hm, if_pos hm]
    have l1 : a + b - isq (4 * a * b) ≤ t ↔ a + b - t ≤ 0 ∨ (a + b - t) * (a + b - t) ≤ 4 * a * b := by
      rw [← le_isq m0 (by omega)]; omega
    have l2 : b ≤ a + t + isq (4 * a * t) ↔ b - a - t ≤ 0 ∨ (b - a - t) * (b - a - t) ≤ 4 * a * t := by
      rw [← le_isq n0 (by omega)]; omega
    have l3 : a + t - isq (4 * a * t) ≤ b ↔ a + t - b ≤ 0 ∨ (a + t - b) * (a + t - b) ≤ 4 * a * t := by
      rw [← le_isq n0 (by omega)]; omega
    have hs := sq_sub a b t
    have hs2 : (a + t - b) * (a + t - b) = (b - a - t) * (b - a - t) := by
      rw [sq_neg]
      congr 1 <;> omega
    rw [l1, show (b ≤ min (a + t + isq (4 * a * t)) 134217728 ↔ b ≤ a + t + isq (4 * a * t)) by omega, l2]
    generalize hD : (b - a - t) * (b - a - t) = D at *
    generalize (a + b - t) * (a + b - t) = E at *
    by_cases hq : D ≤ 4 * a * t
    · constructor
      · intro _
        refine ⟨?_, .inr hq⟩
        split
        · rw [l3, hs2]; exact .inr hq
        · exact b0
      · intro _
        exact .inr (by omega)
    · by_cases hta : t < a
      · rw [if_pos hta, l3, hs2]
        constructor
        · rintro (h | h) <;> omega
        · rintro ⟨h1 | h1, h2 | h2⟩
          · exfalso
            have : b - a - t = 0 := by omega
            rw [this] at hD
            simp at hD
            omega
          all_goals omega
      · rw [if_neg hta]
        constructor
        · rintro (h | h)
          · exact ⟨b0, .inl (by omega)⟩
          · omega
        · rintro ⟨_, h2 | h2⟩
          · left
            rcases Int.lt_or_le 0 (a + b - t) with h | h
            · exfalso
              have h3 : (a + t - b) * (a + t - b) ≤ (2 * a) * (2 * a) := sq_mono (by omega) (by omega)
              have h4 : (2 * a) * (2 * a) ≤ 4 * a * t := by
                have : 4 * a * a ≤ 4 * a * t := Int.mul_le_mul_of_nonneg_left (by omega) (by omega)
                have e : (2 * a) * (2 * a) = 4 * a * a := by
                  rw [Int.mul_assoc, Int.mul_left_comm a 2 a, ← Int.mul_assoc, ← Int.mul_assoc]
                  rfl
                omega
              omega
            · exact h
          · omega
  · rw [if_neg hm, if_neg hm, if_neg hm]
    split <;> omega

theorem sat_rRing : Sat Try.prog 13 refRingSp := by
  refine fnwp_sat (C := M0) (ctx_sound satM) 5 13 refRingSp fun (⟨m, a, t⟩ : Int × Int × Int) hk hp => Eq.mpr (rRing_nf m a t) ?_
  obtain ⟨ha, ht⟩ : keyP a ∧ keyP t := hp
  have hr := fun b (hb : keyP b) => ring_iff (m := m) ha hb ht
  have hlb := low_bounds (m := m) ha ht
  obtain ⟨_, _, a0, a1, t0, t1⟩ := key_mul ha ht
  generalize hlo : (if t < a then lowS m a t else 0) = lo at hr
  generalize hhi : highS m a t = hi at hr hlb
  have hl0 : 0 ≤ lo ∧ lo ≤ a := by
    rw [← hlo]
    split <;> omega
  simp only [decide_eq_true_eq, decide_eq_false_iff_not, i64_iff]
  refine ⟨fun x => x.2.2.2.1 = a ∧ -1 ≤ x.2.2.2.2 ∧ x.2.2.2.2 < lo ∧ lo ≤ x.2.2.1 ∧ x.2.2.1 ≤ a, fun x => (x.2.2.1 - x.2.2.2.2).toNat, ⟨rfl, by dsimp only; omega, by dsimp only; omega, by dsimp only; omega, by dsimp only; omega⟩, fun ⟨o0, o1, l, h, f⟩ hI => ?_⟩
  obtain ⟨h1, h2, h3, h4, h5⟩ := hI
  simp only at h1 h2 h3 h4 h5 ⊢
  have hd : ∀ x : Int, 0 ≤ x → x.tdiv 2 = x / 2 := fun x hx => Int.tdiv_eq_ediv_of_nonneg hx
  rw [hd (l - f) (by omega)]
  refine ⟨by omega, fun hc => ?_, fun hc => ?_⟩
  · have hkp : keyP (f + (l - f) / 2) := ⟨by omega, by omega⟩
    have := hr _ hkp
    refine ⟨by omega, ⟨by omega, by omega⟩, by omega, ⟨ha, hkp⟩, fun hq => ?_, fun hq => ?_⟩
    · have := this.1 hq
      exact ⟨⟨h1, h2, h3, by omega, by omega⟩, by omega⟩
    · have : ¬ (lo ≤ f + (l - f) / 2 ∧ f + (l - f) / 2 ≤ hi) := fun h' => hq (this.2 h')
      exact ⟨⟨h1, by omega, by omega, h4, h5⟩, by omega⟩
  · have hl : l = lo := by omega
    refine ⟨fun x => x.2.2.1 = lo ∧ a ≤ x.2.2.2.1 ∧ x.2.2.2.1 ≤ hi ∧ hi < x.2.2.2.2 ∧ x.2.2.2.2 ≤ 134217729, fun x => (x.2.2.2.2 - x.2.2.2.1).toNat, ⟨hl, by dsimp only; omega, by dsimp only; omega, by dsimp only; omega, by dsimp only; omega⟩, fun ⟨o0, o1, l, h, f⟩ hI => ?_⟩
    obtain ⟨h1, h2, h3, h4, h5⟩ := hI
    simp only at h1 h2 h3 h4 h5 ⊢
    rw [hd (f - h) (by omega)]
    refine ⟨by omega, fun hc => ?_, fun hc => ?_⟩
    · have hkp : keyP (h + (f - h) / 2) := ⟨by omega, by omega⟩
      have := hr _ hkp
      refine ⟨by omega, ⟨by omega, by omega⟩, by omega, ⟨ha, hkp⟩, fun hq => ?_, fun hq => ?_⟩
      · have := this.1 hq
        exact ⟨⟨h1, by omega, by omega, by omega, by omega⟩, by omega⟩
      · have : ¬ (lo ≤ h + (f - h) / 2 ∧ h + (f - h) / 2 ≤ hi) := fun h' => hq (this.2 h')
        exact ⟨⟨h1, by omega, by omega, by omega, by omega⟩, by omega⟩
    · have : h = hi := by omega
      rw [this, h1]

theorem sat_key5 : Sat Try.prog 29 keySp5 := by
  refine fnwp_sat (C := M0) (ctx_sound satM) 5 29 keySp5 fun (⟨m, d⟩ : Int × Int) hk hp => Eq.mpr (key5_nf m d) ?_
  obtain ⟨h0, h1⟩ : -100000 ≤ d ∧ d ≤ 100000 := hp
  have := sq_size (c := 100000) ⟨h0, h1⟩
  simp only [decide_eq_true_eq, decide_eq_false_iff_not, i64_iff]
  unfold keyOf
  exact ⟨fun h => ⟨by omega, by rw [if_pos h]⟩, fun h => by rw [if_neg h]⟩

theorem sat_keys : Sat Try.prog 10 keysSp := by
  refine fnwp_sat (C := M0) (ctx_sound satM) 5 10 keysSp fun (⟨m, a, b, c⟩ : Int × Int × Int × Int) hk hp => Eq.mpr (keys_nf m a b c) ?_
  unfold keysB
  refine ⟨trivial, fun h => ⟨trivial, fun h' => ⟨trivial, by rw [h, h']; rfl⟩, fun h' => by rw [h, h']; rfl⟩, fun h => by rw [h]; rfl⟩
end Go.Proofs.Ytohbapfijafecaa
