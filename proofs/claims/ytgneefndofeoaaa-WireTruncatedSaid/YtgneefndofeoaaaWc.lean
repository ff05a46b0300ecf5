import Derived.Test.YtgneefndofeoaaaWb
namespace Go.Proofs.Ytgneefndofeoaaa
open Go.AM Go.PL
set_option linter.unusedVariables false

/-! ### Bits -/
theorem wrap_u {k : IntKind} (hs : k.signed = false) (x : Int) : k.wrap x = x % 2 ^ k.bits := by
  unfold IntKind.wrap
  simp [hs]
theorem u8w (x : Int) : IntKind.u8.wrap x = x % 256 := by rw [wrap_u rfl]; rfl
theorem u64w (x : Int) : IntKind.u64.wrap x = x % 18446744073709551616 := by rw [wrap_u rfl]; rfl
theorem i64w {x : Int} (h : isI64 x) : IntKind.i64.wrap x = x := by
  unfold isI64 at h
  unfold IntKind.wrap
  simp [IntKind.bits, IntKind.signed]
  omega

theorem or_128 : ∀ i : Fin 256, bitsOp .or .u8 (i.1 : Int) 128 = (i.1 : Int) % 128 + 128 := by decide +kernel
theorem and_127 : ∀ i : Fin 256, bitsOp .and .u8 (i.1 : Int) 127 = (i.1 : Int) % 128 := by decide +kernel
theorem or128 {x : Int} (h0 : 0 ≤ x) (h1 : x < 256) : bitsOp .or .u8 x 128 = x % 128 + 128 := by
  obtain ⟨m, rfl⟩ := Int.eq_ofNat_of_zero_le h0
  exact or_128 ⟨m, by omega⟩
theorem and127 {x : Int} (h0 : 0 ≤ x) (h1 : x < 256) : bitsOp .and .u8 x 127 = x % 128 := by
  obtain ⟨m, rfl⟩ := Int.eq_ofNat_of_zero_le h0
  exact and_127 ⟨m, by omega⟩

theorem toNat_ofInt {x : Int} (h0 : 0 ≤ x) (h1 : x < 18446744073709551616) : (BitVec.ofInt 64 x).toNat = x.toNat := by
  rw [BitVec.toNat_ofInt]
  congr 1
  exact Int.emod_eq_of_lt h0 (by simpa using h1)

/-- Digits that do not meet. -/
theorem or_add {z d : Int} {i : Nat} (hz : 0 ≤ z) (hz' : z < 2 ^ i) (hd : 0 ≤ d) (h : z + d * 2 ^ i < 18446744073709551616) : bitsOp .or .u64 z (d * 2 ^ i) = z + d * 2 ^ i := by
  have hp : (0 : Int) < 2 ^ i := Int.pow_pos (by decide)
  have hm : 0 ≤ d * 2 ^ i := Int.mul_nonneg hd (by omega)
  unfold bitsOp
  show IntKind.u64.wrap (((BitVec.ofInt 64 z ||| BitVec.ofInt 64 (d * 2 ^ i)).toNat : Nat) : Int) = _
  rw [BitVec.toNat_or, toNat_ofInt hz (by omega), toNat_ofInt hm (by omega)]
  obtain ⟨a, rfl⟩ := Int.eq_ofNat_of_zero_le hz
  obtain ⟨b, rfl⟩ := Int.eq_ofNat_of_zero_le hd
  have e1 : ((b : Int) * 2 ^ i).toNat = 2 ^ i * b := by
    have : ((b : Int) * 2 ^ i) = ((2 ^ i * b : Nat) : Int) := by push_cast; rw [Int.mul_comm]
    rw [this, Int.toNat_natCast]
  have ha : a < 2 ^ i := by exact_mod_cast hz'
  rw [e1, Int.toNat_natCast, Nat.or_comm, ← Nat.two_pow_add_eq_or_of_lt ha, u64w]
  have e2 : ((2 ^ i * b + a : Nat) : Int) = a + b * 2 ^ i := by push_cast; rw [Int.mul_comm]; omega
  rw [e2]
  exact Int.emod_eq_of_lt (by omega) h

theorem and_one {z : Int} (h0 : 0 ≤ z) (h1 : z < 18446744073709551616) : bitsOp .and .u64 z 1 = z % 2 := by
  unfold bitsOp
  show IntKind.u64.wrap (((BitVec.ofInt 64 z &&& BitVec.ofInt 64 1).toNat : Nat) : Int) = _
  rw [BitVec.toNat_and, toNat_ofInt h0 h1, toNat_ofInt (by decide) (by decide)]
  have : (1 : Int).toNat = 1 := rfl
  rw [this, Nat.and_one_is_mod, u64w]
  omega

theorem xor_zero {a : Int} (h : isI64 a) : bitsOp .xor .i64 a 0 = a := by
  unfold isI64 at h
  unfold bitsOp
  show IntKind.i64.wrap (((BitVec.ofInt 64 a ^^^ BitVec.ofInt 64 0).toNat : Nat) : Int) = _
  have : BitVec.ofInt 64 a ^^^ BitVec.ofInt 64 0 = BitVec.ofInt 64 a := by simp
  rw [this, BitVec.toNat_ofInt]
  unfold IntKind.wrap
  simp [IntKind.bits, IntKind.signed]
  omega
theorem xor_neg {a : Int} (h : isI64 a) : bitsOp .xor .i64 a (-1) = -1 - a := by
  unfold isI64 at h
  unfold bitsOp
  show IntKind.i64.wrap (((BitVec.ofInt 64 a ^^^ BitVec.ofInt 64 (-1)).toNat : Nat) : Int) = _
  have e : BitVec.ofInt 64 (-1) = BitVec.allOnes 64 := by decide
  rw [e, BitVec.xor_allOnes, BitVec.toNat_not, BitVec.toNat_ofInt]
  unfold IntKind.wrap
  simp [IntKind.bits, IntKind.signed]
  omega
theorem uxor_zero {a : Int} (h0 : 0 ≤ a) (h1 : a < 18446744073709551616) : bitsOp .xor .u64 a 0 = a := by
  unfold bitsOp
  show IntKind.u64.wrap (((BitVec.ofInt 64 a ^^^ BitVec.ofInt 64 0).toNat : Nat) : Int) = _
  have : BitVec.ofInt 64 a ^^^ BitVec.ofInt 64 0 = BitVec.ofInt 64 a := by simp
  rw [this, toNat_ofInt h0 h1, u64w]
  omega
theorem uxor_max {a : Int} (h0 : 0 ≤ a) (h1 : a < 18446744073709551616) : bitsOp .xor .u64 a 18446744073709551615 = 18446744073709551615 - a := by
  unfold bitsOp
  show IntKind.u64.wrap (((BitVec.ofInt 64 a ^^^ BitVec.ofInt 64 18446744073709551615).toNat : Nat) : Int) = _
  have e : BitVec.ofInt 64 18446744073709551615 = BitVec.allOnes 64 := by decide
  rw [e, BitVec.xor_allOnes, BitVec.toNat_not, toNat_ofInt h0 h1, u64w]
  omega

theorem zz_bits {n : Int} (h : isI64 n) : bitsOp .xor .u64 (IntKind.u64.wrap (IntKind.u64.wrap n * 2)) (IntKind.u64.wrap (n / 2 ^ 63)) = zz n := by
  unfold isI64 at h
  have e63 : ((2 : Int) ^ 63) = 9223372036854775808 := by decide
  rw [e63]
  unfold zz
  rcases Int.lt_or_le n 0 with hn | hn
  · have e : n / 9223372036854775808 = -1 := by omega
    rw [e, show IntKind.u64.wrap (-1) = 18446744073709551615 by decide, if_pos hn]
    simp only [u64w]
    rw [uxor_max (by omega) (by omega)]
    omega
  · have e : n / 9223372036854775808 = 0 := by omega
    rw [e, show IntKind.u64.wrap 0 = 0 by decide, if_neg (by omega)]
    simp only [u64w]
    rw [uxor_zero (by omega) (by omega)]
    omega

theorem bytesU : Try.prog.bytesOf 5 = 1 := by kernel_rfl
theorem roomU {C : Ctx} {t : TypeId} {n : Nat} (hb : C.P.bytesOf t = 1) (h : n ≤ 140737488355328) : roomP C t n := by
  unfold roomP
  rw [hb]
  omega

/-! ### Encoding -/
theorem digits_go (m : Nat) (z : Int) : digits (m + 1) z = if z < 128 then [z] else (z % 128 + 128) :: digits m (z / 128) := rfl

theorem sat_int : SatG Try.prog 14 intG := by
  refine fnwpG_sat (C := W0) (mkctx_sound trivial trivial) 5 14 intG fun (n : Int) hk _ => Eq.mpr (int_nf n) ?_
  have hk : isI64 n := has_i64.1 hk
  rw [zz_bits hk]
  have hz := zz_lt hk
  have hz0 := zz_nonneg n
  simp only [decide_eq_true_eq, decide_eq_false_iff_not]
  refine ⟨by omega, by omega, fun x => ∃ m : Nat, 0 ≤ x.2 ∧ x.2 < 2 * 128 ^ m ∧ x.1.length + m = 9 ∧ encI n = x.1 ++ digits m x.2, fun x => x.2.toNat, ⟨9, hz0, ?_, rfl, rfl⟩, fun ⟨o, z⟩ hI => ?_⟩
  · show zz n < 2 * 128 ^ 9
    omega
  obtain ⟨m, h0, h1, h2, h3⟩ := hI
  simp only at h0 h1 h2 h3 ⊢
  refine ⟨fun hc => ?_, fun hc => ?_⟩
  · cases m with
    | zero => simp at h1; omega
    | succ m =>
      rw [u8w, or128 (by omega) (by omega)]
      have e7 : ((2 : Int) ^ 7) = 128 := by decide
      rw [e7]
      have e : z % 256 % 128 + 128 = z % 128 + 128 := by omega
      rw [e]
      rw [Int.pow_succ] at h1
      refine ⟨roomU bytesU (by simp; omega), by omega, ⟨m, by omega, by omega, by simp; omega, ?_⟩, by omega⟩
      rw [h3, digits_go, if_neg (by omega)]
      simp
  · have e : z % 256 = z := by omega
    rw [u8w, e]
    refine ⟨roomU bytesU (by simp; omega), ?_⟩
    rw [h3]
    cases m with
    | zero => rfl
    | succ m => rw [digits_go, if_pos (by omega)]

theorem pow128 : ∀ i : Fin 9, (128 : Int) ^ i.1 ≤ 72057594037927936 := by decide

theorem rInt_loop {n z0 : Int} (hz : zz n = z0) (hk : isI64 n) :
    ∃ (I : List Int × Int → Prop), ∃ (μ : List Int × Int → Nat), I ([], z0) ∧ ∀ (x : List Int × Int), I x → (decide ((128 : Int) ≤ x.snd) = true → (128 : Int) ≠ (0 : Int) ∧ roomP W0 (5 : Nat)
  (x.fst.length + [IntKind.u8.wrap (IntKind.u8.wrap (x.snd.tmod (128 : Int)) + (128 : Int))].length) ∧ (128 : Int) ≠ (0 : Int) ∧ I (x.fst ++ [IntKind.u8.wrap (IntKind.u8.wrap
  (x.snd.tmod (128 : Int)) + (128 : Int))], IntKind.u64.wrap (x.snd.tdiv (128 : Int))) ∧ μ (x.fst ++ [IntKind.u8.wrap (IntKind.u8.wrap (x.snd.tmod (128 : Int)) + (128 : Int))],
  IntKind.u64.wrap (x.snd.tdiv (128 : Int))) < μ x) ∧ (decide ((128 : Int) ≤ x.snd) = false → roomP W0 (5 : Nat) (x.fst.length + [IntKind.u8.wrap x.snd].length) ∧ x.fst ++
  [IntKind.u8.wrap x.snd] = encI n) := by
  have hz1 := zz_lt hk
  have hz0 := zz_nonneg n
  simp only [decide_eq_true_eq, decide_eq_false_iff_not]
  refine ⟨fun x => ∃ m : Nat, 0 ≤ x.2 ∧ x.2 < 2 * 128 ^ m ∧ x.1.length + m = 9 ∧ encI n = x.1 ++ digits m x.2, fun x => x.2.toNat, ⟨9, by dsimp only; omega, ?_, rfl, by subst hz; rfl⟩, fun ⟨o, z⟩ hI => ?_⟩
  · show z0 < 2 * 128 ^ 9
    omega
  obtain ⟨m, h0, h1, h2, h3⟩ := hI
  simp only at h0 h1 h2 h3 ⊢
  rw [Int.tmod_eq_emod_of_nonneg h0, Int.tdiv_eq_ediv_of_nonneg h0]
  refine ⟨fun hc => ?_, fun hc => ?_⟩
  · cases m with
    | zero => simp at h1; omega
    | succ m =>
      have e : (z % 128 % 256 + 128) % 256 = z % 128 + 128 := by omega
      have hb2 : z / 128 < 18446744073709551616 := by
        rw [Int.pow_succ] at h1
        have h4 := pow128 ⟨m, by omega⟩
        simp only at h4
        omega
      simp only [u8w, u64w]
      rw [e, Int.emod_eq_of_lt (by omega) hb2]
      rw [Int.pow_succ] at h1
      refine ⟨by decide, roomU bytesU (by simp; omega), by decide, ⟨m, by omega, by omega, by simp; omega, ?_⟩, by omega⟩
      rw [h3, digits_go, if_neg (by omega)]
      simp
  · have e : z % 256 = z := by omega
    rw [u8w, e]
    refine ⟨roomU bytesU (by simp; omega), ?_⟩
    rw [h3]
    cases m with
    | zero => rfl
    | succ m => rw [digits_go, if_pos (by omega)]

theorem sat_rInt : SatG Try.prog 15 intG := by
  refine fnwpG_sat (C := W0) (mkctx_sound trivial trivial) 5 15 intG fun (n : Int) hk _ => Eq.mpr (rInt_nf n) ?_
  have hk : isI64 n := has_i64.1 hk
  have hk' := hk
  unfold isI64 at hk'
  refine ⟨fun hc => ⟨?_, rInt_loop ?_ hk⟩, fun hc => rInt_loop ?_ hk⟩
  · unfold isI64
    have : n < 0 := by simpa using hc
    omega
  · have : n < 0 := by simpa using hc
    simp only [u64w]
    unfold zz
    rw [if_pos this]
    omega
  · have : ¬ n < 0 := by simpa using hc
    simp only [u64w]
    unfold zz
    rw [if_neg this]
    omega
end Go.Proofs.Ytgneefndofeoaaa
