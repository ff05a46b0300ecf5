import Derived.Test.YtgneefndofeoaaaWg
namespace Go.PL
open Go.AM
/-- The number that the first places hold. -/
def val (b : List Int) : Nat → Int
  | 0 => 0
  | j + 1 => val b j + b.getD j 0 % 128 * 128 ^ j
theorem val_step (b : List Int) (j : Nat) : val b (j + 1) = val b j + b.getD j 0 % 128 * 128 ^ j := rfl
theorem pow_pos128 (j : Nat) : (0 : Int) < 128 ^ j := Int.pow_pos (by decide)
theorem val_nonneg (b : List Int) : ∀ j, 0 ≤ val b j
  | 0 => Int.le_refl _
  | j + 1 => by
    rw [val_step]
    have h1 := val_nonneg b j
    have h2 := Int.mul_nonneg (show 0 ≤ b.getD j 0 % 128 by omega) (show (0 : Int) ≤ 128 ^ j by have := pow_pos128 j; omega)
    omega
theorem val_lt (b : List Int) : ∀ j, val b j < 128 ^ j
  | 0 => by show (0 : Int) < 1; omega
  | j + 1 => by
    rw [val_step, Int.pow_succ]
    have h1 := val_lt b j
    have h2 : b.getD j 0 % 128 * 128 ^ j ≤ 127 * 128 ^ j := Int.mul_le_mul_of_nonneg_right (by omega) (by have := pow_pos128 j; omega)
    omega
theorem val_mono (b : List Int) : ∀ j k, j ≤ k → val b j ≤ val b k
  | j, 0, h => by have : j = 0 := by omega
                  subst this; exact Int.le_refl _
  | j, k + 1, h => by
    rcases Nat.lt_or_ge k j with h1 | h1
    · have : j = k + 1 := by omega
      subst this; exact Int.le_refl _
    · have h2 := val_mono b j k h1
      have h3 := Int.mul_nonneg (show 0 ≤ b.getD k 0 % 128 by omega) (show (0 : Int) ≤ 128 ^ k by have := pow_pos128 k; omega)
      rw [val_step]
      omega
end Go.PL
namespace Go.Proofs.Ytgneefndofeoaaa
open Go.AM Go.PL
set_option linter.unusedVariables false

theorem rloop (b : List Int) (hb : ∀ c ∈ b, 0 ≤ c ∧ c ≤ 255) (j : Nat) (hl : b.length ≤ 2 ^ 63 - 1) (hj : j < b.length) (hd : decI b = .ok (unzz (val b (j + 1))) ((j : Int) + 1)) (hZ : val b (j + 1) < 18446744073709551616) :
    ∃ (I : Int × Int → Prop), ∃ (μ : Int × Int → Nat), I ((0 : Int), (j : Int)) ∧ ∀ (x_1 : Int × Int), I x_1 → (decide ((0 : Int) ≤ x_1.snd) = true →
    ((0 : Int) ≤ x_1.snd ∧ x_1.snd < (↑b.length : Int)) ∧ (128 : Int) ≠ (0 : Int) ∧ isI64 (x_1.snd - (1 : Int)) ∧
    I (IntKind.u64.wrap (IntKind.u64.wrap (x_1.fst * (128 : Int)) + IntKind.u64.wrap ((b.getD x_1.snd.toNat (0 : Int)).tmod (128 : Int))), x_1.snd - (1 : Int)) ∧
    μ (IntKind.u64.wrap (IntKind.u64.wrap (x_1.fst * (128 : Int)) + IntKind.u64.wrap ((b.getD x_1.snd.toNat (0 : Int)).tmod (128 : Int))), x_1.snd - (1 : Int)) < μ x_1) ∧
    (decide ((0 : Int) ≤ x_1.snd) = false → (2 : Int) ≠ (0 : Int) ∧ (decide (x_1.fst.tmod (2 : Int) = (1 : Int)) = true → (2 : Int) ≠ (0 : Int) ∧
    isI64 ((-1 : Int) - IntKind.i64.wrap (IntKind.u64.wrap (x_1.fst.tdiv (2 : Int)))) ∧ isI64 ((j : Int) + (1 : Int)) ∧
    ((-1 : Int) - IntKind.i64.wrap (IntKind.u64.wrap (x_1.fst.tdiv (2 : Int))), (j : Int) + (1 : Int), (0 : Int)) = decO (decI b)) ∧
    (decide (x_1.fst.tmod (2 : Int) = (1 : Int)) = false → (2 : Int) ≠ (0 : Int) ∧ isI64 ((j : Int) + (1 : Int)) ∧
    (IntKind.i64.wrap (IntKind.u64.wrap (x_1.fst.tdiv (2 : Int))), (j : Int) + (1 : Int), (0 : Int)) = decO (decI b))) := by
  have hv := fun k => val_nonneg b k
  refine ⟨fun x => -1 ≤ x.2 ∧ x.2 ≤ j ∧ 0 ≤ x.1 ∧ x.1 * 128 ^ (x.2 + 1).toNat + val b (x.2 + 1).toNat = val b (j + 1), fun x => (x.2 + 1).toNat,
    ⟨by dsimp only; omega, by dsimp only; omega, by dsimp only; omega, ?_⟩, fun ⟨z, i⟩ ⟨h1, h2, h3, h4⟩ => ⟨fun hc => ?_, fun hc => ?_⟩⟩
  · dsimp only
    rw [show ((j : Int) + 1).toNat = j + 1 by omega]
    omega
  · have hc : 0 ≤ i := of_decide_eq_true hc
    dsimp only at h1 h2 h3 h4 ⊢
    obtain ⟨m, rfl⟩ := Int.eq_ofNat_of_zero_le hc
    rw [show ((m : Int) + 1).toNat = m + 1 by omega, Int.pow_succ, val_step] at h4
    have hcb := hb (b.getD m 0) (getD_mem b m (by omega))
    have hw : (z * 128 + b.getD m 0 % 128) * 128 ^ m + val b m = val b (j + 1) := by
      rw [← h4, Int.add_mul, Int.mul_assoc, Int.mul_comm 128]; omega
    have hw0 : 0 ≤ z * 128 + b.getD m 0 % 128 := by omega
    have hw1 : (z * 128 + b.getD m 0 % 128) * 1 ≤ (z * 128 + b.getD m 0 % 128) * 128 ^ m := Int.mul_le_mul_of_nonneg_left (by have := pow_pos128 m; omega) hw0
    have hv0 := hv m
    rw [show (m : Int).toNat = m by omega]
    have e : IntKind.u64.wrap (IntKind.u64.wrap (z * 128) + IntKind.u64.wrap ((b.getD m 0).tmod 128)) = z * 128 + b.getD m 0 % 128 := by
      rw [Int.tmod_eq_emod_of_nonneg hcb.1, u64w, u64w, u64w]; omega
    rw [e]
    refine ⟨⟨by omega, by omega⟩, by omega, by unfold isI64; omega, ⟨by omega, by omega, hw0, ?_⟩, by omega⟩
    rw [show ((m : Int) - 1 + 1).toNat = m by omega]
    exact hw
  · have hc : ¬ 0 ≤ i := of_decide_eq_false hc
    have hi : i = -1 := by dsimp only at h1; omega
    subst hi
    have h4 : z = val b (j + 1) := by simpa [val] using h4
    dsimp only at h3 ⊢
    subst h4
    have e : IntKind.i64.wrap (IntKind.u64.wrap (val b (j + 1) / 2)) = val b (j + 1) / 2 := by
      rw [u64w, i64w (by unfold isI64; omega)]; omega
    rw [Int.tmod_eq_emod_of_nonneg h3, Int.tdiv_eq_ediv_of_nonneg h3, e, hd]
    refine ⟨by omega, fun h => ⟨by omega, by unfold isI64; omega, by unfold isI64; omega, ?_⟩, fun h => ⟨by omega, by unfold isI64; omega, ?_⟩⟩
    · have h := of_decide_eq_true h
      unfold unzz; rw [if_pos h]; rfl
    · have h := of_decide_eq_false h
      unfold unzz; rw [if_neg h]; rfl
/-- The first places are marked. -/
def markI (b : List Int) (x : Int) : Prop :=
  ∃ j : Nat, x = j ∧ j ≤ 10 ∧ j ≤ b.length ∧ (j ≤ 9 → scan 0 1 0 b = scan j (128 ^ j) (val b j) (b.drop j)) ∧ (j = 10 → scan 0 1 0 b = .err 11)

set_option maxHeartbeats 4000000 in
theorem sat_rGetInt : Sat Try.prog 25 getIntSp := by
  refine fnwp_sat (C := W0) (mkctx_sound trivial trivial) 5 25 getIntSp fun (b : List Int) hk _ => Eq.mpr (rGetInt_nf b) ?_
  have hb : ∀ c ∈ b, 0 ≤ c ∧ c ≤ 255 := fun c hc => has_byte (hk.2 c hc)
  have hl : b.length ≤ 2 ^ 63 - 1 := hk.1
  refine ⟨markI b, fun x => ((b.length : Int) - x).toNat, ⟨0, rfl, by omega, by omega, fun _ => rfl, fun h => absurd h (by omega)⟩, fun x hI => ?_⟩
  obtain ⟨j, rfl, hj, hjl, h1, h2⟩ := hI
  rw [show (j : Int).toNat = j by omega]
  -- what the first unmarked place says
  have hj9 : j < b.length → j < 10 → scan 0 1 0 b = if (j = 9 ∧ 1 < b.getD j 0) ∨ (0 < j ∧ b.getD j 0 = 0) then .err 11
      else if b.getD j 0 < 128 then .ok (val b j + b.getD j 0 * 128 ^ j) (j + 1) else scan (j + 1) (128 ^ j * 128) (val b j + (b.getD j 0 - 128) * 128 ^ j) (b.drop (j + 1)) := fun hjb h10 => by
    rw [h1 (by omega), drop_cons' b j hjb, scan_cons]
  have hcb : j < b.length → 0 ≤ b.getD j 0 ∧ b.getD j 0 ≤ 255 := fun hjb => hb _ (getD_mem b j hjb)
  have e10 : j = 10 → ((0 : Int), (0 : Int), (11 : Int)) = decO (decI b) := fun h => by
    unfold decI; rw [h2 h]; rfl
  have elen : j < 10 → j = b.length → ((0 : Int), (0 : Int), (10 : Int)) = decO (decI b) := fun h10 h => by
    unfold decI; rw [h1 (by omega), List.drop_eq_nil_of_le (by omega)]; rfl
  have ecan : j < b.length → j < 10 → ((j = 9 ∧ 1 < b.getD j 0) ∨ (0 < j ∧ b.getD j 0 = 0)) → ((0 : Int), (0 : Int), (11 : Int)) = decO (decI b) := fun hjb h10 h => by
    unfold decI; rw [hj9 hjb h10, if_pos h]; rfl
  have hval : j < b.length → j < 10 → ¬ ((j = 9 ∧ 1 < b.getD j 0) ∨ (0 < j ∧ b.getD j 0 = 0)) → b.getD j 0 < 128 →
      decI b = .ok (unzz (val b (j + 1))) ((j : Int) + 1) ∧ val b (j + 1) < 18446744073709551616 := fun hjb h10 h hlt => by
    have hc0 := (hcb hjb).1
    refine ⟨?_, ?_⟩
    · unfold decI; rw [hj9 hjb h10, if_neg h, if_pos hlt, val_step, show b.getD j 0 % 128 = b.getD j 0 by omega]
    · have := digit_more (c := b.getD j 0) (show j ≤ 9 by omega) (val_nonneg b j) (val_lt b j) hc0 (by omega) (by omega)
      exact this.2
  have goodl : j < b.length → j < 10 → ¬ ((j = 9 ∧ 1 < b.getD j 0) ∨ (0 < j ∧ b.getD j 0 = 0)) → b.getD j 0 < 128 → _ := fun hjb h10 h hlt =>
    rloop b hb j hl hjb (hval hjb h10 h hlt).1 (hval hjb h10 h hlt).2
  refine ⟨fun hc => ⟨fun ht => ⟨?_, fun hm => ?_, fun hm => ?_⟩, fun ht => ?_⟩, fun hc => ?_⟩
  · have hc := of_decide_eq_true hc
    omega
  · have hc := of_decide_eq_true hc
    have ht := of_decide_eq_true ht
    have hm := of_decide_eq_true hm
    refine ⟨by unfold isI64; omega, ⟨j + 1, rfl, by omega, by omega, fun h9 => ?_, fun h9 => ?_⟩, by dsimp only; omega⟩
    · rw [hj9 (by omega) (by omega), if_neg (by omega), if_neg (by omega), val_step, Int.pow_succ, show b.getD j 0 % 128 = b.getD j 0 - 128 by have := hcb (by omega); omega]
    · rw [hj9 (by omega) (by omega), if_pos (by omega)]
  · refine ⟨fun h => e10 (by have := of_decide_eq_true h; omega), fun h => ?_⟩
    have n10 := of_decide_eq_false h
    refine ⟨fun h' => elen (by omega) (by have := of_decide_eq_true h'; omega), fun h' => ?_⟩
    have nl := of_decide_eq_false h'
    have hc := of_decide_eq_true hc; have ht := of_decide_eq_true ht; have hm := of_decide_eq_false hm
    refine ⟨fun h9 => ?_, fun h9 => ?_⟩
    · have h9 := of_decide_eq_true h9
      refine ⟨⟨by omega, by omega⟩, fun hx => ecan (by omega) (by omega) (by have := of_decide_eq_true hx; omega), fun hx => ?_⟩
      have hx := of_decide_eq_false hx
      refine ⟨fun hp => ⟨⟨by omega, by omega⟩, fun hz => ecan (by omega) (by omega) (by have := of_decide_eq_true hp; have := of_decide_eq_true hz; omega), fun hz =>
        goodl (by omega) (by omega) (by have := of_decide_eq_false hz; omega) (by omega)⟩, fun hp => goodl (by omega) (by omega) (by have := of_decide_eq_false hp; omega) (by omega)⟩
    · have h9 := of_decide_eq_false h9
      refine ⟨fun hp => ⟨⟨by omega, by omega⟩, fun hz => ecan (by omega) (by omega) (by have := of_decide_eq_true hp; have := of_decide_eq_true hz; omega), fun hz =>
        goodl (by omega) (by omega) (by have := of_decide_eq_false hz; omega) (by omega)⟩, fun hp => goodl (by omega) (by omega) (by have := of_decide_eq_false hp; omega) (by omega)⟩
  · have hc := of_decide_eq_true hc
    have ht := of_decide_eq_false ht
    refine ⟨fun h => e10 (by have := of_decide_eq_true h; omega), fun h => absurd (of_decide_eq_false h) (by omega)⟩
  · have hc := of_decide_eq_false hc
    refine ⟨fun h => e10 (by have := of_decide_eq_true h; omega), fun h => ⟨fun h' => elen (by have := of_decide_eq_false h; omega) (by have := of_decide_eq_true h'; omega),
      fun h' => absurd (of_decide_eq_false h') (by omega)⟩⟩
end Go.Proofs.Ytgneefndofeoaaa
