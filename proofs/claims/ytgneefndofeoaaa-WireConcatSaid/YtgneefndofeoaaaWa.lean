import Derived.Test.YtgneefndofeoaaaPl
namespace Go.PL
set_option linter.unusedVariables false
open Go.AM

/-! ### Integers as bytes, plain -/
/-- A number without sign for each integer. -/
def zz (n : Int) : Int := if n < 0 then 2 * (-1 - n) + 1 else 2 * n
def unzz (z : Int) : Int := if z % 2 = 1 then -1 - z / 2 else z / 2
/-- Digits to the base 128, the least first; all but the last one are marked. -/
def digits : Nat → Int → List Int
  | 0, z => [z]
  | k + 1, z => if z < 128 then [z] else (z % 128 + 128) :: digits k (z / 128)
def encI (n : Int) : List Int := digits 9 (zz n)

/-- What a decoding answers: a number and how many bytes, or an error (10: truncated, 11: not canonical). -/
inductive Dec (α : Type) where
  | err (e : Int)
  | ok (x : α) (used : Int)

/-- From the place k on (of 10), the number so far being z, the digit's weight p. -/
def scan : Nat → Int → Int → List Int → Dec Int
  | _, _, _, [] => .err 10
  | k, p, z, c :: b => if (k = 9 ∧ 1 < c) ∨ (0 < k ∧ c = 0) then .err 11
      else if c < 128 then .ok (z + c * p) (k + 1) else scan (k + 1) (p * 128) (z + (c - 128) * p) b
def decI (b : List Int) : Dec Int :=
  match scan 0 1 0 b with
  | .err e => .err e
  | .ok z u => .ok (unzz z) u

theorem unzz_zz (n : Int) : unzz (zz n) = n := by
  unfold zz unzz
  split <;> split <;> omega
theorem zz_nonneg (n : Int) : 0 ≤ zz n := by unfold zz; split <;> omega
theorem zz_lt {n : Int} (h : isI64 n) : zz n < 18446744073709551616 := by
  unfold isI64 at h
  unfold zz
  split <;> omega
theorem zz_unzz {z : Int} (h : 0 ≤ z) : zz (unzz z) = z := by
  unfold zz unzz
  split <;> split <;> omega
theorem unzz_i64 {z : Int} (h : 0 ≤ z) (h' : z < 18446744073709551616) : isI64 (unzz z) := by
  unfold isI64 unzz
  split <;> omega

theorem digits_byte : ∀ (k : Nat) (z : Int), 0 ≤ z → z < 256 * 128 ^ k → ∀ c ∈ digits k z, 0 ≤ c ∧ c ≤ 255
  | 0, z, h0, h1, c, hc => by simp [digits] at hc; subst hc; simp at h1; omega
  | k + 1, z, h0, h1, c, hc => by
    unfold digits at hc
    split at hc
    · simp at hc; omega
    · rcases List.mem_cons.1 hc with rfl | hc
      · omega
      · refine digits_byte k (z / 128) (by omega) ?_ c hc
        rw [Int.pow_succ] at h1
        omega

theorem digits_len : ∀ (k : Nat) (z : Int), 1 ≤ (digits k z).length ∧ (digits k z).length ≤ k + 1
  | 0, z => by simp [digits]
  | k + 1, z => by
    unfold digits
    split
    · simp
    · have := digits_len k (z / 128)
      simp; omega

/-- What is decoded is what was encoded, whatever follows. -/
theorem scan_digits : ∀ (m k : Nat) (p z acc : Int) (r : List Int), k + m = 9 → 0 ≤ z → z < 2 * 128 ^ m → (0 < k → 0 < z) →
    scan k p acc (digits m z ++ r) = .ok (acc + z * p) (k + (digits m z).length)
  | 0, k, p, z, acc, r, hk, h0, h1, hz => by
    simp at h1
    have hk : k = 9 := by omega
    subst hk
    simp only [digits, List.cons_append, List.nil_append, scan, List.length_cons, List.length_nil]
    rw [if_neg (by have := hz (by omega); omega), if_pos (by omega)]
    rfl
  | m + 1, k, p, z, acc, r, hk, h0, h1, hz => by
    unfold digits
    split
    · rename_i hlt
      simp only [List.cons_append, List.nil_append, scan, List.length_cons, List.length_nil]
      rw [if_neg (by omega), if_pos hlt]
      rfl
    · rename_i hge
      simp only [List.cons_append, scan, List.length_cons]
      rw [if_neg (by omega), if_neg (by omega)]
      rw [Int.pow_succ] at h1
      rw [scan_digits m (k + 1) (p * 128) (z / 128) _ r (by omega) (by omega) (by omega) (by omega)]
      have e : acc + (z % 128 + 128 - 128) * p + z / 128 * (p * 128) = acc + z * p := by
        have h2 : z / 128 * (p * 128) = (z / 128 * 128) * p := by rw [Int.mul_comm p, Int.mul_assoc]
        have h3 : z * p = (z % 128 + z / 128 * 128) * p := by congr 1; omega
        rw [h2, h3, Int.add_mul]
        have : z % 128 + 128 - 128 = z % 128 := by omega
        rw [this]
        omega
      rw [e]
      congr 1
      omega

theorem dec_enc {n : Int} (h : isI64 n) (r : List Int) : decI (encI n ++ r) = .ok n (encI n).length := by
  unfold decI encI
  rw [scan_digits 9 0 1 (zz n) 0 r rfl (zz_nonneg n) (by have := zz_lt h; omega) (by omega)]
  simp [unzz_zz]

/-- What is decoded encodes as the bytes that were read. -/
theorem scan_canon : ∀ (m k : Nat) (p acc z u : Int) (b : List Int), k + m = 9 → (∀ c ∈ b, 0 ≤ c ∧ c ≤ 255) → 0 < p → scan k p acc b = .ok z u →
    ∃ y, z = acc + y * p ∧ 0 ≤ y ∧ y < 2 * 128 ^ m ∧ (0 < k → 0 < y) ∧ k < u ∧ u ≤ k + b.length ∧ digits m y = b.take (u - k).toNat
  | m, k, p, acc, z, u, [], _, _, _, h => by simp [scan] at h
  | m, k, p, acc, z, u, c :: b, hk, hb, hp, h => by
    have hc := hb c (by simp)
    unfold scan at h
    split at h
    · cases h
    · rename_i h1
      split at h
      · rename_i h2
        simp only [Dec.ok.injEq] at h
        obtain ⟨rfl, rfl⟩ := h
        refine ⟨c, rfl, hc.1, ?_, by omega, by omega, by simp; omega, ?_⟩
        · cases m with
          | zero => simp; omega
          | succ m =>
            have : (1 : Int) ≤ 128 ^ m := Int.pow_pos (by decide)
            rw [Int.pow_succ]; omega
        · have e : ((k : Int) + 1 - k).toNat = 1 := by omega
          rw [e]
          cases m with
          | zero => simp [digits]
          | succ m => unfold digits; rw [if_pos h2]; rfl
      · rename_i h2
        cases m with
        | zero => omega
        | succ m =>
          obtain ⟨y, h3, h4, h5, h6, h7, h8, h9⟩ := scan_canon m (k + 1) (p * 128) _ z u b (by omega) (fun x hx => hb x (by simp [hx])) (by omega) h
          have hy := h6 (by omega)
          refine ⟨c - 128 + y * 128, ?_, by omega, by rw [Int.pow_succ]; omega, by omega, by omega, by simp; omega, ?_⟩
          · rw [h3, Int.add_mul]
            have : y * (p * 128) = y * 128 * p := by rw [Int.mul_comm p, Int.mul_assoc]
            omega
          · have e : (u - k).toNat = (u - (k + 1 : Nat)).toNat + 1 := by omega
            have ed : ∀ z, digits (m + 1) z = if z < 128 then [z] else (z % 128 + 128) :: digits m (z / 128) := fun _ => rfl
            rw [e, List.take_succ_cons, ← h9, ed, if_neg (by omega)]
            have e1 : (c - 128 + y * 128) % 128 + 128 = c := by omega
            have e2 : (c - 128 + y * 128) / 128 = y := by omega
            rw [e1, e2]

theorem enc_dec {b : List Int} (hb : ∀ c ∈ b, 0 ≤ c ∧ c ≤ 255) {n u : Int} (h : decI b = .ok n u) : isI64 n ∧ 1 ≤ u ∧ u ≤ 10 ∧ u ≤ b.length ∧ encI n = b.take u.toNat := by
  unfold decI at h
  split at h
  · cases h
  · rename_i z u' hs
    simp only [Dec.ok.injEq] at h
    obtain ⟨rfl, rfl⟩ := h
    obtain ⟨y, h3, h4, h5, _, h7, h8, h9⟩ := scan_canon 9 0 1 0 z u' b rfl hb (by omega) hs
    have hz : z = y := by omega
    subst hz
    have hl := digits_len 9 z
    rw [h9] at hl
    simp at hl
    refine ⟨unzz_i64 h4 (by omega), by omega, by omega, by simpa using h8, ?_⟩
    unfold encI
    rw [zz_unzz h4, h9]
    simp

end Go.PL
