import Derived.Test.YtjppchomonpfgaaTf
--@drop
namespace Go.Proofs.Ytjppchomonpfgaa
open Go.AM Go.PL

theorem u8_wrap {x : Int} (h0 : 0 ≤ x) (h1 : x < 256) : IntKind.u8.wrap x = x := by
  unfold IntKind.wrap
  simp [IntKind.bits, IntKind.signed]
  omega

theorem i64_wrap {x : Int} (h0 : -9223372036854775808 ≤ x) (h1 : x ≤ 9223372036854775807) : IntKind.i64.wrap x = x := by
  unfold IntKind.wrap
  simp [IntKind.bits, IntKind.signed]
  omega

theorem u64_wrap {x : Int} (h0 : 0 ≤ x) (h1 : x < 18446744073709551616) : IntKind.u64.wrap x = x := by
  unfold IntKind.wrap
  simp [IntKind.bits, IntKind.signed]
  omega

theorem tab1_blen : ∀ i : Fin 256, tab1.getD i.1 0 = blen (i.1 : Int) := by decide +kernel

theorem tab_step {x : Int} (h0 : 0 ≤ x) (h1 : x < 256) : (0 ≤ IntKind.u8.wrap x ∧ IntKind.u8.wrap x < (tab1.length : Int)) ∧ IntKind.i64.wrap (tab1.getD (IntKind.u8.wrap x).toNat 0) = blen x ∧ 0 ≤ blen x ∧ blen x ≤ 8 := by
  rw [u8_wrap h0 h1]
  have hl : tab1.length = 256 := by decide +kernel
  have hb := blen_le (n := x) (k := 8) (by omega)
  have hb0 := (blen_lt h0).1
  obtain ⟨m, rfl⟩ := Int.eq_ofNat_of_zero_le h0
  have ht := tab1_blen ⟨m, by omega⟩
  rw [Int.toNat_natCast]
  simp only at ht
  rw [ht]
  refine ⟨⟨h0, by rw [hl]; exact h1⟩, i64_wrap (by omega) (by omega), hb0, by omega⟩

theorem ssC0 : SpecSound C0 := mkctx_sound trivial trivial
theorem sat_len : Sat Try.prog 87 blSp := by
  refine sat_nf (C := C0) ssC0 len_nf fun (n : Int) hk _ => ?_
  have hk : IntKind.u64.has n := hk
  unfold IntKind.has at hk
  simp [IntKind.min, IntKind.max, IntKind.bits, IntKind.signed] at hk
  obtain ⟨h0, h1⟩ := hk
  have e32 : ((2 : Int) ^ (32 : Nat)) = 4294967296 := by decide
  have e16 : ((2 : Int) ^ (16 : Nat)) = 65536 := by decide
  have e8 : ((2 : Int) ^ (8 : Nat)) = 256 := by decide
  rw [e32, e16, e8]
  have s32 : ∀ {y : Int}, 4294967296 ≤ y → blen y = 32 + blen (y / 4294967296) := fun h => blen_step 32 h
  have s16 : ∀ {y : Int}, 65536 ≤ y → blen y = 16 + blen (y / 65536) := fun h => blen_step 16 h
  have s8 : ∀ {y : Int}, 256 ≤ y → blen y = 8 + blen (y / 256) := fun h => blen_step 8 h
  simp only [decide_eq_true_eq, decide_eq_false_iff_not, i64_iff]
  have fin : ∀ {x : Int}, 0 ≤ x → x < 256 → ∀ {p : Prop}, (blen x ≤ 8 → 0 ≤ blen x → IntKind.i64.wrap (tab1.getD (IntKind.u8.wrap x).toNat 0) = blen x → p) → (0 ≤ IntKind.u8.wrap x ∧ IntKind.u8.wrap x < ((256 : Nat) : Int)) ∧ p := fun h0 h1 _ h =>
    let ⟨a, b, c, d⟩ := tab_step h0 h1
    ⟨by rw [show tab1.length = 256 by decide +kernel] at a; exact a, h d c b⟩
  refine ⟨fun c1 => ⟨by omega, fun c2 => ⟨by omega, by omega, fun c3 => ⟨by omega, by omega, fin (by omega) (by omega) fun b b0 e => ?_⟩, fun c3 => fin (by omega) (by omega) fun b b0 e => ?_⟩, fun c2 => ⟨fun c3 => ⟨by omega, by omega, fin (by omega) (by omega) fun b b0 e => ?_⟩, fun c3 => fin (by omega) (by omega) fun b b0 e => ?_⟩⟩,
    fun c1 => ⟨fun c2 => ⟨by omega, by omega, fun c3 => ⟨by omega, by omega, fin (by omega) (by omega) fun b b0 e => ?_⟩, fun c3 => fin (by omega) (by omega) fun b b0 e => ?_⟩, fun c2 => ⟨fun c3 => ⟨by omega, by omega, fin (by omega) (by omega) fun b b0 e => ?_⟩, fun c3 => fin (by omega) (by omega) fun b b0 e => ?_⟩⟩⟩ <;> rw [e] <;> refine ⟨by omega, ?_⟩
  · rw [s32 c1, s16 c2, s8 c3]; omega
  · rw [s32 c1, s16 c2]; omega
  · rw [s32 c1, s8 c3]; omega
  · rw [s32 c1]
  · rw [s16 c2, s8 c3]; omega
  · rw [s16 c2]
  · rw [s8 c3]
  · omega

end Go.Proofs.Ytjppchomonpfgaa
