import Derived.Test.YtgneefndofeoaaaWa
namespace Go.PL
set_option linter.unusedVariables false
open Go.AM

theorem digits_half : ∀ (k : Nat) (z z' : Int), z / 2 = z' / 2 → (digits k z).length = (digits k z').length
  | 0, z, z', _ => rfl
  | k + 1, z, z', h => by
    have e : ∀ z, digits (k + 1) z = if z < 128 then [z] else (z % 128 + 128) :: digits k (z / 128) := fun _ => rfl
    rw [e, e]
    by_cases h1 : z < 128
    · rw [if_pos h1, if_pos (by omega)]; rfl
    · rw [if_neg h1, if_neg (by omega), List.length_cons, List.length_cons, digits_half k (z / 128) (z' / 128) (by omega)]
theorem digits_mono : ∀ (k : Nat) (z z' : Int), z ≤ z' → (digits k z).length ≤ (digits k z').length
  | 0, z, z', _ => Nat.le_refl _
  | k + 1, z, z', h => by
    have e : ∀ z, digits (k + 1) z = if z < 128 then [z] else (z % 128 + 128) :: digits k (z / 128) := fun _ => rfl
    rw [e, e]
    by_cases h1 : z < 128
    · rw [if_pos h1]
      split <;> simp
    · rw [if_neg h1, if_neg (by omega), List.length_cons, List.length_cons]
      have := digits_mono k (z / 128) (z' / 128) (by omega)
      omega
theorem digits_one (k : Nat) (z : Int) : (digits (k + 1) z).length = 1 ↔ z < 128 := by
  have e : ∀ z, digits (k + 1) z = if z < 128 then [z] else (z % 128 + 128) :: digits k (z / 128) := fun _ => rfl
  rw [e]
  split
  · rename_i h; simp [h]
  · rename_i h
    have := digits_len k (z / 128)
    rw [List.length_cons]
    constructor
    · omega
    · intro h'; omega
theorem zz_half (n : Int) : zz n / 2 = max n (-1 - n) := by
  unfold zz
  split <;> omega
theorem encI_mono {m n : Int} (h : max m (-1 - m) ≤ max n (-1 - n)) : (encI m).length ≤ (encI n).length := by
  unfold encI
  have h1 := zz_half m
  have h2 := zz_half n
  rw [digits_half 9 (zz m) (2 * max m (-1 - m)) (by omega), digits_half 9 (zz n) (2 * max n (-1 - n)) (by omega)]
  exact digits_mono _ _ _ (by omega)
theorem encI_one (m : Int) : (encI m).length = 1 ↔ max m (-1 - m) < 64 := by
  unfold encI
  have h1 := zz_half m
  rw [digits_one]
  omega
theorem encI_neg (m : Int) : (encI (-1 - m)).length = (encI m).length := by
  unfold encI
  have h1 := zz_half m
  have h2 := zz_half (-1 - m)
  exact digits_half 9 _ _ (by omega)
/-- No encoding is the beginning of another one. -/
theorem encI_prefix {m n : Int} (hm : isI64 m) (hn : isI64 n) (h : (encI m).length ≤ (encI n).length) (he : encI m = (encI n).take (encI m).length) : m = n := by
  have h1 := dec_enc hm ((encI n).drop (encI m).length)
  have h2 := dec_enc hn []
  rw [List.append_nil] at h2
  have h3 : encI m ++ (encI n).drop (encI m).length = encI n := by
    conv => lhs; arg 1; rw [he]
    exact List.take_append_drop _ _
  rw [h3, h2] at h1
  cases h1
  rfl
theorem encI_take {m n : Int} (hm : isI64 m) (hn : isI64 n) {k : Nat} (hk : k = min (encI m).length (encI n).length) : (encI m).take k = (encI n).take k ↔ m = n := by
  constructor
  · intro h
    rcases Nat.le_total (encI m).length (encI n).length with h1 | h1
    · rw [Nat.min_eq_left h1] at hk
      subst hk
      rw [List.take_length] at h
      exact encI_prefix hm hn h1 h
    · rw [Nat.min_eq_right h1] at hk
      subst hk
      rw [List.take_length] at h
      exact (encI_prefix hn hm h1 h.symm).symm
  · rintro rfl; rfl
end Go.PL
