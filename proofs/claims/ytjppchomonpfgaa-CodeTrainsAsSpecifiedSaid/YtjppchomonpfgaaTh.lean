import Derived.Test.YtjppchomonpfgaaTg
--@drop
namespace Go.Proofs.Ytjppchomonpfgaa
open Go.AM Go.PL

theorem ss1 : SpecSound C1 := mkctx_sound ⟨sat_len, trivial⟩ trivial

/-- Newton's step. -/
theorem newton {N x : Int} (hx : 0 < x) (hN : 0 ≤ N) (hr : isq N ≤ x) (h60 : N ≤ 2 ^ 60) : isq N ≤ (x + N / x) / 2 ∧ (x ≤ (x + N / x) / 2 → x = isq N) := by
  obtain ⟨r0, r1, r2⟩ := isq_spec hN h60
  generalize isq N = r at *
  have hq : N / x * x ≤ N := Int.ediv_mul_le N (by omega)
  have hq2 : N < (N / x + 1) * x := Int.lt_ediv_add_one_mul_self N hx
  have hq0 : 0 ≤ N / x := Int.ediv_nonneg hN (by omega)
  generalize N / x = q at *
  constructor
  · -- 2r ≤ x + q: else x + q ≤ 2r - 1, (x+q+1)^2 ≥ 4 x (q+1) > 4N ≥ 4r²
    by_cases h : r ≤ (x + q) / 2
    · exact h
    · exfalso
      have h1 : x + (q + 1) ≤ 2 * r := by omega
      have h2 : 4 * ((q + 1) * x) ≤ (x + (q + 1)) * (x + (q + 1)) := by
        have : 0 ≤ (x - (q + 1)) * (x - (q + 1)) := by
          rcases Int.le_total 0 (x - (q + 1)) with h' | h'
          · exact Int.mul_nonneg h' h'
          · exact Int.mul_nonneg_of_nonpos_of_nonpos h' h'
        have e1 : (x + (q + 1)) * (x + (q + 1)) = (x - (q + 1)) * (x - (q + 1)) + 4 * ((q + 1) * x) := by
          generalize q + 1 = t
          simp only [Int.add_mul, Int.mul_add, Int.sub_mul, Int.mul_sub, Int.mul_comm t x]
          omega
        omega
      have h3 : (x + (q + 1)) * (x + (q + 1)) ≤ (2 * r) * (2 * r) := sq_mono (by omega) h1
      have h4 : (2 * r) * (2 * r) = 4 * (r * r) := by
        rw [Int.mul_assoc, Int.mul_left_comm r 2 r, ← Int.mul_assoc]
        rfl
      omega
  · intro h
    have h1 : x ≤ q := by omega
    have h2 : x * x ≤ q * x := Int.mul_le_mul_of_nonneg_right h1 (by omega)
    have := sq_inj (a := x) (b := r) r0 (by omega)
    omega

theorem isq_clamp (n : Int) : isq (max 0 (min n 1152921504606846976)) = isq n := by
  unfold isq
  congr 2
  omega

theorem sat_isqrt : Sat Try.prog 83 isqSp := by
  refine sat_nf (C := C1) ss1 isq_nf fun (n : Int) _ _ => ?_
  rw [← isq_clamp n]
  have hN0 : 0 ≤ max 0 (min n 1152921504606846976) := by omega
  have hN1 : max 0 (min n 1152921504606846976) ≤ 1152921504606846976 := by omega
  generalize max 0 (min n 1152921504606846976) = N at *
  rw [u64_wrap hN0 (by omega)]
  obtain ⟨b0, b1⟩ := blen_lt hN0
  have b2 : blen N ≤ 61 := blen_le (k := 61) (by omega)
  generalize blen N = L at *
  have hd : (L + 1).tdiv 2 = (L + 1) / 2 := Int.tdiv_eq_ediv_of_nonneg (by omega)
  rw [hd]
  obtain ⟨m, hm⟩ := Int.eq_ofNat_of_zero_le (a := (L + 1) / 2) (by omega)
  have hm31 : m ≤ 31 := by omega
  rw [hm, Int.toNat_natCast, Int.one_mul]
  simp only [decide_eq_true_eq, decide_eq_false_iff_not, i64_iff]
  have hp1 : (2 : Int) ^ m ≤ 2147483648 := by
    have h1 : 2 ^ m ≤ 2147483648 := Nat.pow_le_pow_right (n := 2) (by decide) hm31
    have h2 : ((2 ^ m : Nat) : Int) ≤ ((2147483648 : Nat) : Int) := Int.ofNat_le.2 h1
    rw [Int.natCast_pow] at h2
    exact h2
  have hp0 : (1 : Int) ≤ 2 ^ m := by
    have := Nat.one_le_two_pow (n := m)
    exact_mod_cast this
  have hsq : isq N ≤ 2 ^ m := by
    obtain ⟨r0, r1, r2⟩ := isq_spec hN0 (by omega)
    refine sq_inj (by omega) ?_
    have : (2 : Int) ^ L.toNat ≤ 2 ^ m * 2 ^ m := by
      rw [← Int.pow_add]
      have := Nat.pow_le_pow_right (n := 2) (by decide) (show L.toNat ≤ m + m by omega)
      exact_mod_cast this
    have h2 := sq_mono (a := 2 ^ m) (b := 2 ^ m + 1) (by omega) (by omega)
    omega
  refine ⟨fun h => ?_, fun hN => ⟨trivial, ⟨by omega, by omega⟩, ⟨by omega, by omega, by omega⟩, ⟨by omega, by omega, by omega, by omega⟩, ?_⟩⟩
  · subst h
    exact (isq_eq (by omega) (by omega) (by omega) (by omega)).symm
  refine ⟨fun x => isq N ≤ x ∧ 0 < x ∧ x ≤ 2147483648, fun x => x.toNat, ⟨hsq, by omega, hp1⟩, ?_⟩
  rintro x ⟨hx1, hx2, hx3⟩
  have hq : N.tdiv x = N / x := Int.tdiv_eq_ediv_of_nonneg hN0
  have hq0 : 0 ≤ N / x := Int.ediv_nonneg hN0 (by omega)
  have hq1 : N / x ≤ N := Int.ediv_le_self x hN0
  rw [hq]
  have hh : (x + N / x).tdiv 2 = (x + N / x) / 2 := Int.tdiv_eq_ediv_of_nonneg (by omega)
  rw [hh]
  obtain ⟨n1, n2⟩ := newton hx2 hN0 hx1 (by omega)
  have hr1 : 1 ≤ isq N := by
    obtain ⟨r0, r1, r2⟩ := isq_spec hN0 (by omega)
    rcases Int.lt_or_le 0 (isq N) with h' | h'
    · omega
    · have : isq N = 0 := by omega
      rw [this] at r2
      omega
  refine ⟨⟨by omega, by omega, by omega⟩, ⟨by omega, by omega⟩, ⟨by omega, by omega, by omega⟩, n2, fun h => ⟨⟨n1, by omega, by omega⟩, ?_⟩⟩
  show ((x + N / x) / 2).toNat < x.toNat
  omega

end Go.Proofs.Ytjppchomonpfgaa
