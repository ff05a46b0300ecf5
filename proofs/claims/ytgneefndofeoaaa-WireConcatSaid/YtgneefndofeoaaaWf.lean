import Derived.Test.YtgneefndofeoaaaWe
namespace Go.Proofs.Ytgneefndofeoaaa
open Go.AM Go.PL
set_option linter.unusedVariables false

theorem p128 : ∀ j : Fin 10, (2 : Int) ^ (7 * j.1) = 128 ^ j.1 ∧ (128 : Int) ^ j.1 ≤ 9223372036854775808 ∧ (1 : Int) ≤ 128 ^ j.1 := by decide
theorem p128' : ∀ j : Fin 9, (128 : Int) ^ j.1 ≤ 72057594037927936 := by decide

/-- A digit more. -/
theorem digit_more {j : Nat} {c z : Int} (hj : j ≤ 9) (h0 : 0 ≤ z) (hz : z < 128 ^ j) (hc0 : 0 ≤ c) (hc1 : c < 256) (h9 : j = 9 → c ≤ 1) :
    bitsOp .or .u64 z (IntKind.u64.wrap (IntKind.u64.wrap (bitsOp .and .u8 c 127) * 2 ^ ((7 : Int) * (j : Int)).toNat)) = z + c % 128 * 128 ^ j ∧ z + c % 128 * 128 ^ j < 18446744073709551616 := by
  have e : ((7 : Int) * (j : Int)).toNat = 7 * j := by omega
  obtain ⟨p1, p2, p3⟩ := p128 ⟨j, by omega⟩
  simp only at p1 p2 p3
  rw [and127 hc0 hc1, e]
  have hm : c % 128 * 128 ^ j + 128 ^ j ≤ 18446744073709551616 := by
    rcases Nat.lt_or_ge j 9 with h | h
    · have p4 := p128' ⟨j, h⟩
      simp only at p4
      have h5 : c % 128 * 128 ^ j ≤ 127 * 128 ^ j := Int.mul_le_mul_of_nonneg_right (by omega) (by omega)
      omega
    · have h5 : c % 128 * 128 ^ j ≤ 1 * 128 ^ j := Int.mul_le_mul_of_nonneg_right (by have := h9 (by omega); omega) (by omega)
      omega
  have hn : 0 ≤ c % 128 * 128 ^ j := Int.mul_nonneg (by omega) (by omega)
  have e1 : IntKind.u64.wrap (c % 128) = c % 128 := by rw [u64w]; omega
  have e2 : IntKind.u64.wrap (c % 128 * 2 ^ (7 * j)) = c % 128 * 2 ^ (7 * j) := by rw [u64w, p1]; omega
  rw [e1, e2, or_add h0 (by rw [p1]; omega) (by omega) (by rw [p1]; omega), p1]
  exact ⟨rfl, by omega⟩

theorem unzz_bits {z : Int} (h0 : 0 ≤ z) (h1 : z < 18446744073709551616) :
    isI64 ((0 : Int) - IntKind.i64.wrap (bitsOp BinOp.and IntKind.u64 z (1 : Int))) ∧
    bitsOp BinOp.xor IntKind.i64 (IntKind.i64.wrap (z / (2 : Int) ^ (1 : Nat))) ((0 : Int) - IntKind.i64.wrap (bitsOp BinOp.and IntKind.u64 z (1 : Int))) = unzz z := by
  have e2 : ((2 : Int) ^ (1 : Nat)) = 2 := by decide
  rw [and_one h0 h1, e2, i64w (by unfold isI64; omega), i64w (by unfold isI64; omega)]
  refine ⟨by unfold isI64; omega, ?_⟩
  unfold unzz
  split
  · rename_i h
    rw [h, show (0 : Int) - 1 = -1 by omega, xor_neg (by unfold isI64; omega)]
  · rename_i h
    rw [show (0 : Int) - z % 2 = 0 by omega, xor_zero (by unfold isI64; omega)]

theorem has_byte {c : Int} (h : IntKind.u8.has c) : 0 ≤ c ∧ c ≤ 255 := by
  unfold IntKind.has at h
  simpa [IntKind.min, IntKind.max, IntKind.bits, IntKind.signed] using h
theorem getD_mem (b : List Int) (j : Nat) (h : j < b.length) : b.getD j 0 ∈ b := by
  rw [List.getD, List.getElem?_eq_getElem h]
  exact List.getElem_mem h
theorem scan_cons (k : Nat) (p z c : Int) (b : List Int) : scan k p z (c :: b) = if (k = 9 ∧ 1 < c) ∨ (0 < k ∧ c = 0) then .err 11
      else if c < 128 then .ok (z + c * p) (k + 1) else scan (k + 1) (p * 128) (z + (c - 128) * p) b := rfl

/-- The digits up to here. -/
def scanI (b : List Int) (x : Int × Int × Int) : Prop :=
  ∃ j : Nat, x.1 = j ∧ x.2.2 = 0 ∧ j ≤ 9 ∧ j ≤ b.length ∧ 0 ≤ x.2.1 ∧ x.2.1 < 128 ^ j ∧ scan 0 1 0 b = scan j (128 ^ j) x.2.1 (b.drop j)

theorem drop_cons' (b : List Int) (j : Nat) (h : j < b.length) : b.drop j = b.getD j 0 :: b.drop (j + 1) := by
  rw [List.drop_eq_getElem_cons h]
  simp [List.getD, h]

set_option maxHeartbeats 4000000 in
theorem sat_getInt : Sat Try.prog 24 getIntSp := by
  refine fnwp_sat (C := W0) (mkctx_sound trivial trivial) 5 24 getIntSp fun (b : List Int) hk _ => Eq.mpr (getInt_nf b) ?_
  have hb : ∀ c ∈ b, 0 ≤ c ∧ c ≤ 255 := fun c hc => has_byte (hk.2 c hc)
  have hl : b.length ≤ maxLen := hk.1
  unfold maxLen at hl
  simp only [decide_eq_true_eq, decide_eq_false_iff_not, i64_iff]
  refine ⟨scanI b, fun x => ((b.length : Int) - x.1).toNat, ⟨0, rfl, rfl, by omega, by omega, by decide, by decide, rfl⟩, fun ⟨k, z, u⟩ hI => ?_⟩
  obtain ⟨j, rfl, rfl, hj, hjl, h0, h1, h2⟩ := hI
  dsimp only at h0 h1 h2 ⊢
  refine ⟨fun hc => ?_, fun hc => ⟨fun _ => ?_, fun h => absurd rfl h⟩⟩
  · have hjb : j < b.length := by omega
    have ej : (j : Int).toNat = j := by omega
    rw [ej]
    rw [drop_cons' b j hjb, scan_cons] at h2
    have hcb := hb (b.getD j 0) (getD_mem b j hjb)
    generalize b.getD j 0 = c at h2 hcb ⊢
    have err : (((j = 9 ∧ 1 < c) ∨ (0 < j ∧ c = 0))) → ((0 : Int), (0 : Int), (11 : Int)) = decO (decI b) := fun h => by
      unfold decI; rw [h2, if_pos h]; rfl
    have good : ∀ h9 : (j = 9 → c ≤ 1), _ := fun h9 => digit_more hj h0 h1 hcb.1 (by omega) h9
    have ok : ∀ h : ¬ ((j = 9 ∧ 1 < c) ∨ (0 < j ∧ c = 0)), c < 128 → (z + c % 128 * 128 ^ j : Int) < 18446744073709551616 →
        (unzz (z + c % 128 * 128 ^ j), (j : Int) + 1, (0 : Int)) = decO (decI b) := fun h hlt hb => by
      unfold decI; rw [h2, if_neg h, if_pos hlt, show c % 128 = c by omega]; rfl
    have nx : ∀ h : ¬ ((j = 9 ∧ 1 < c) ∨ (0 < j ∧ c = 0)), ¬ c < 128 → scanI b ((j : Int) + 1, z + c % 128 * 128 ^ j, 0) := fun h hlt => by
      rw [if_neg h, if_neg hlt] at h2
      have hm : 0 ≤ c % 128 * 128 ^ j ∧ c % 128 * 128 ^ j ≤ 127 * 128 ^ j := by
        have := (p128 ⟨j, by omega⟩).2.2
        simp only at this
        exact ⟨Int.mul_nonneg (by omega) (by omega), Int.mul_le_mul_of_nonneg_right (by omega) (by omega)⟩
      refine ⟨j + 1, rfl, rfl, by omega, by omega, by dsimp only; omega, by dsimp only; rw [Int.pow_succ]; omega, ?_⟩
      rw [h2, Int.pow_succ, show c % 128 = c - 128 by omega]
    refine ⟨⟨by omega, by omega⟩, fun h9 => ⟨fun h => err (by omega), fun h => ⟨fun h' => ⟨fun h'' => err (by omega), fun h'' => ?_⟩, fun h' => ?_⟩⟩,
      fun h9 => ⟨fun h' => ⟨fun h'' => err (by omega), fun h'' => ?_⟩, fun h' => ?_⟩⟩
    all_goals
      obtain ⟨g1, g2⟩ := good (by omega)
      have hz0 : 0 ≤ z + c % 128 * 128 ^ j := by
        have := (p128 ⟨j, by omega⟩).2.2
        simp only at this
        have := Int.mul_nonneg (show 0 ≤ c % 128 by omega) (show (0 : Int) ≤ 128 ^ j by omega)
        omega
      rw [g1]
      obtain ⟨q1, q2⟩ := unzz_bits hz0 g2
      simp only [i64_iff] at q1
      rw [q2]
      exact ⟨by omega, by omega, fun hlt => ⟨by omega, fun hq => absurd hq (by omega), fun _ => ⟨by omega, q1, ok (by omega) hlt g2⟩⟩,
        fun hlt => ⟨by omega, nx (by omega) hlt, by omega⟩⟩
  · unfold decI
    rw [h2, List.drop_eq_nil_of_le (by omega)]
    rfl
end Go.Proofs.Ytgneefndofeoaaa
