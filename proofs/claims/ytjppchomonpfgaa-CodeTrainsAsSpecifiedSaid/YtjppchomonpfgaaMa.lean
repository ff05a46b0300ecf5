import Derived.Test.YtjppchomonpfgaaPl
namespace Go.PL

/-! ### Plain numbers: roots, lengths -/
/-- The root, rounded down. -/
def nsq : Nat → Nat
  | 0 => 0
  | n + 1 => if (nsq n + 1) * (nsq n + 1) ≤ n + 1 then nsq n + 1 else nsq n

theorem nsq_le : ∀ n, nsq n * nsq n ≤ n
  | 0 => Nat.le_refl _
  | n + 1 => by
    unfold nsq
    split
    · assumption
    · exact Nat.le_succ_of_le (nsq_le n)

theorem nsq_lt : ∀ n, n < (nsq n + 1) * (nsq n + 1)
  | 0 => by simp [nsq]
  | n + 1 => by
    have ih := nsq_lt n
    unfold nsq
    split
    · have : (nsq n + 1 + 1) * (nsq n + 1 + 1) = (nsq n + 1) * (nsq n + 1) + 2 * (nsq n + 1) + 1 := by
        simp only [Nat.add_mul, Nat.mul_add]; omega
      omega
    · omega

/-- The root of a number of at most 2^60, of 0 for what is less. -/
def isq (n : Int) : Int := (nsq (max 0 (min n (2 ^ 60))).toNat : Nat)

theorem isq_spec {n : Int} (h0 : 0 ≤ n) (h1 : n ≤ 2 ^ 60) : 0 ≤ isq n ∧ isq n * isq n ≤ n ∧ n < (isq n + 1) * (isq n + 1) := by
  unfold isq
  have h2 := nsq_le (max 0 (min n (2 ^ 60))).toNat
  have h3 := nsq_lt (max 0 (min n (2 ^ 60))).toNat
  have h4 : ((max 0 (min n (2 ^ 60))).toNat : Int) = n := by omega
  generalize (max 0 (min n (2 ^ 60))).toNat = k at *
  subst h4
  refine ⟨by omega, ?_, ?_⟩
  · exact_mod_cast h2
  · exact_mod_cast h3

theorem sq_mono {a b : Int} (ha : 0 ≤ a) (h : a ≤ b) : a * a ≤ b * b := Int.mul_le_mul h h ha (by omega)

theorem sq_inj {a b : Int} (hb : 0 ≤ b) (h : a * a < (b + 1) * (b + 1)) : a ≤ b := by
  rcases Int.lt_or_le b a with h' | h'
  · have := sq_mono (a := b + 1) (b := a) (by omega) (by omega)
    omega
  · exact h'

theorem isq_eq {n r : Int} (hr : 0 ≤ r) (h1 : r * r ≤ n) (h2 : n < (r + 1) * (r + 1)) (hn : n ≤ 2 ^ 60) : isq n = r := by
  have h0 : 0 ≤ n := Int.le_trans (Int.mul_nonneg hr hr) h1
  obtain ⟨a, b, c⟩ := isq_spec h0 hn
  have := sq_inj (a := r) a (by omega)
  have := sq_inj (a := isq n) hr (by omega)
  omega

theorem isq_nonneg (n : Int) : 0 ≤ isq n := by unfold isq; omega

theorem isq_le (n : Int) : isq n ≤ 2 ^ 30 := by
  have h : isq n = isq (max 0 (min n (2 ^ 60))) := by
    unfold isq
    congr 2
    omega
  obtain ⟨a, b, c⟩ := isq_spec (n := max 0 (min n (2 ^ 60))) (by omega) (by omega)
  rw [h]
  refine sq_inj (by omega) ?_
  have e : ((2 : Int) ^ 30 + 1) * (2 ^ 30 + 1) = 2 ^ 60 + 2 ^ 31 + 1 := by decide
  rw [e]
  omega

/-- The number of binary digits. -/
def blen (n : Int) : Int := if n ≤ 0 then 0 else (Nat.log2 n.toNat : Nat) + 1

theorem log2_step : ∀ (k n : Nat), 2 ^ k ≤ n → Nat.log2 n = k + Nat.log2 (n / 2 ^ k)
  | 0, n, _ => by simp
  | k + 1, n, h => by
    have h1 : 2 ^ k ≤ n / 2 := by rw [Nat.le_div_iff_mul_le (by decide)]; rw [Nat.pow_succ] at h; exact h
    have h2 : 2 ≤ n := by
      have : 1 ≤ 2 ^ k := Nat.one_le_two_pow
      rw [Nat.pow_succ] at h
      omega
    rw [Nat.log2_def, if_pos h2, log2_step k (n / 2) h1, Nat.div_div_eq_div_mul, Nat.pow_succ, Nat.mul_comm 2]
    omega

theorem blen_step (k : Nat) {n : Int} (h : (2 : Int) ^ k ≤ n) : blen n = k + blen (n / 2 ^ k) := by
  have hp : (0 : Int) < 2 ^ k := by exact_mod_cast Nat.two_pow_pos k
  obtain ⟨m, rfl⟩ := Int.eq_ofNat_of_zero_le (Int.le_trans (Int.le_of_lt hp) h)
  have h' : 2 ^ k ≤ m := by exact_mod_cast h
  have e : ((m : Int) / 2 ^ k) = ((m / 2 ^ k : Nat) : Int) := by simp
  have h1 : 0 < m / 2 ^ k := Nat.div_pos h' (Nat.two_pow_pos k)
  rw [e]
  have h3 := Nat.two_pow_pos k
  unfold blen
  rw [if_neg (by omega), if_neg (by omega), Int.toNat_natCast, Int.toNat_natCast, log2_step k m h']
  omega

theorem blen_lt {n : Int} (h : 0 ≤ n) : 0 ≤ blen n ∧ n < 2 ^ (blen n).toNat := by
  unfold blen
  split
  · simp; omega
  · obtain ⟨m, rfl⟩ := Int.eq_ofNat_of_zero_le h
    refine ⟨by omega, ?_⟩
    rw [Int.toNat_natCast, show ((Nat.log2 m : Nat) : Int) + 1 = ((Nat.log2 m + 1 : Nat) : Int) by omega, Int.toNat_natCast]
    have := @Nat.lt_log2_self m
    exact_mod_cast this

theorem blen_le {n : Int} {k : Nat} (h : n < 2 ^ k) : blen n ≤ k := by
  unfold blen
  split
  · omega
  · rename_i hn
    obtain ⟨m, rfl⟩ := Int.eq_ofNat_of_zero_le (a := n) (by omega)
    rw [Int.toNat_natCast]
    have : m < 2 ^ k := by exact_mod_cast h
    have := (Nat.log2_lt (n := m) (k := k) (by omega)).2 this
    omega

end Go.PL
