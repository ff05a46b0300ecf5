import Derived.Test.YtjppchomonpfgaaTh
--@drop
namespace Go.Proofs.Ytjppchomonpfgaa
open Go.AM Go.PL

theorem p2_le {m k : Nat} (h : m ≤ k) {v : Int} (hv : ((2 ^ k : Nat) : Int) = v) : (2 : Int) ^ m ≤ v ∧ (1 : Int) ≤ 2 ^ m := by
  have h1 : 2 ^ m ≤ 2 ^ k := Nat.pow_le_pow_right (n := 2) (by decide) h
  have h2 : ((2 ^ m : Nat) : Int) ≤ ((2 ^ k : Nat) : Int) := Int.ofNat_le.2 h1
  have h3 : ((1 : Nat) : Int) ≤ ((2 ^ m : Nat) : Int) := Int.ofNat_le.2 Nat.one_le_two_pow
  rw [hv, Int.natCast_pow] at h2
  rw [Int.natCast_pow] at h3
  exact ⟨h2, h3⟩

def rootI (r : Int) (x : Int × Int) : Prop := -1 ≤ x.2 ∧ x.2 ≤ 30 ∧ 0 ≤ x.1 ∧ x.1 ≤ r ∧ r < x.1 + 2 ^ (x.2 + 1).toNat

theorem root_step {r T : Int} {x : Int × Int} (hT : T ≤ 1152921504606846976) (h0 : 0 ≤ r) (h1 : r * r ≤ max 0 T) (h2 : max 0 T < (r + 1) * (r + 1)) (hI : rootI r x) :
    (0 ≤ x.2 → (0 ≤ x.2 ∧ x.2 ≤ 63 ∧ isI64 (1 * 2 ^ x.2.toNat)) ∧ isI64 (x.1 + 1 * 2 ^ x.2.toNat) ∧ isI64 ((x.1 + 1 * 2 ^ x.2.toNat) * (x.1 + 1 * 2 ^ x.2.toNat)) ∧
      ((x.1 + 1 * 2 ^ x.2.toNat) * (x.1 + 1 * 2 ^ x.2.toNat) ≤ T → isI64 (x.2 - 1) ∧ rootI r (x.1 + 1 * 2 ^ x.2.toNat, x.2 - 1) ∧ (x.2 - 1 + 1).toNat < (x.2 + 1).toNat) ∧
      (¬(x.1 + 1 * 2 ^ x.2.toNat) * (x.1 + 1 * 2 ^ x.2.toNat) ≤ T → isI64 (x.2 - 1) ∧ rootI r (x.1, x.2 - 1) ∧ (x.2 - 1 + 1).toNat < (x.2 + 1).toNat)) ∧ (¬0 ≤ x.2 → x.1 = r) := by
  obtain ⟨o, k⟩ := x
  obtain ⟨k0, k1, o0, o1, hr⟩ := hI
  simp only at k0 k1 o0 o1 hr ⊢
  refine ⟨fun hk => ?_, fun hk => ?_⟩
  · obtain ⟨m, rfl⟩ := Int.eq_ofNat_of_zero_le hk
    obtain ⟨p1, p0⟩ := p2_le (m := m) (k := 30) (by omega) (v := 1073741824) (by decide)
    have e : ((m : Int) + 1).toNat = m + 1 := by omega
    rw [e, Int.pow_succ] at hr
    rw [Int.toNat_natCast]
    have hr30 : r ≤ 1073741824 := sq_inj (by omega) (by
      have : ((1073741824 : Int) + 1) * (1073741824 + 1) = 1152921504606846976 + 2147483648 + 1 := by decide
      omega)
    have e1 : ((m : Int) - 1 + 1).toNat = m := by omega
    unfold rootI
    simp only [i64_iff, Int.one_mul, e1]
    have hsq := sq_mono (a := o + 2 ^ m) (b := 2147483648) (by omega) (by omega)
    have hsq0 : 0 ≤ (o + 2 ^ m) * (o + 2 ^ m) := Int.mul_nonneg (by omega) (by omega)
    have e2 : (2147483648 : Int) * 2147483648 = 4611686018427387904 := by decide
    refine ⟨⟨by omega, by omega, by omega⟩, by omega, by omega, fun hc => ⟨by omega, ⟨by omega, by omega, by omega, ?_, by omega⟩, by omega⟩, fun hc => ⟨by omega, ⟨by omega, by omega, by omega, by omega, ?_⟩, by omega⟩⟩
    · exact sq_inj h0 (by omega)
    · rcases Int.lt_or_le r (o + 2 ^ m) with h' | h'
      · exact h'
      · have := sq_mono (a := o + 2 ^ m) (b := r) (by omega) h'
        have : r * r ≤ T ∨ r * r ≤ 0 := by omega
        have : 1 * 1 ≤ (o + 2 ^ m) * (o + 2 ^ m) := sq_mono (by omega) (by omega)
        omega
  · have : k = -1 := by omega
    subst this
    simp at hr
    omega

theorem isq_max (n : Int) (r : Int) (h : isq n = r) : 0 ≤ r ∧ r * r ≤ max 0 (min n 1152921504606846976) ∧ max 0 (min n 1152921504606846976) < (r + 1) * (r + 1) := by
  rw [← h, ← isq_clamp n]
  exact isq_spec (by omega) (by omega)

theorem sat_isqrt2 : Sat Try.prog 70 isqSp := by
  refine sat_nf (C := C1) ss1 isq2_nf fun (n : Int) _ _ => ?_
  simp only [decide_eq_true_eq, decide_eq_false_iff_not]
  obtain ⟨h0, h1, h2⟩ := isq_max n _ rfl
  have hr30 : isq n < 0 + 2 ^ ((30 : Int) + 1).toNat := by
    have := isq_le n
    have e : ((2 : Int) ^ ((30 : Int) + 1).toNat) = 2147483648 := by decide
    have e' : ((2 : Int) ^ 30) = 1073741824 := by decide
    omega
  refine ⟨fun hc => ?_, fun hc => ?_⟩
  · refine ⟨rootI (isq n), fun x => (x.2 + 1).toNat, ⟨by decide, by decide, by decide, h0, hr30⟩, fun x hI => ?_⟩
    exact root_step (T := 1152921504606846976) (by omega) h0 (by omega) (by omega) hI
  · refine ⟨rootI (isq n), fun x => (x.2 + 1).toNat, ⟨by decide, by decide, by decide, h0, hr30⟩, fun x hI => ?_⟩
    exact root_step (T := n) (by omega) h0 (by omega) (by omega) hI

end Go.Proofs.Ytjppchomonpfgaa
