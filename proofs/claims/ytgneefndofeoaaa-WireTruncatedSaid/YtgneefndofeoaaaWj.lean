import Derived.Test.YtgneefndofeoaaaWi
--@drop
namespace Go.Proofs.Ytgneefndofeoaaa
open Go.AM Go.PL
set_option linter.unusedVariables false

theorem room16 {C : Ctx} {t : TypeId} {n : Nat} (hb : C.P.bytesOf t ≤ 16) (h : n ≤ 1000000) : roomP C t n := by
  unfold roomP
  have := Nat.mul_le_mul_left n hb
  omega
theorem bytesI : Try.prog.bytesOf 3 ≤ 16 := by
  rw [show Try.prog.bytesOf 3 = 8 by kernel_rfl]; omega
theorem bytesS : Try.prog.bytesOf 9 ≤ 16 := by
  rw [show Try.prog.bytesOf 9 = 16 by kernel_rfl]; omega
theorem bytesD : Try.prog.bytesOf 57 ≤ 16 := by
  rw [show Try.prog.bytesOf 57 = 16 by kernel_rfl]; omega
theorem sixteen' (b : List Int) (a : Int) (h0 : 0 ≤ a) (h : a + 16 ≤ b.length) : [b.getD (a + 0).toNat 0, b.getD (a + 1).toNat 0, b.getD (a + 2).toNat 0, b.getD (a + 3).toNat 0, b.getD (a + 4).toNat 0, b.getD (a + 5).toNat 0, b.getD (a + 6).toNat 0, b.getD (a + 7).toNat 0, b.getD (a + 8).toNat 0, b.getD (a + 9).toNat 0, b.getD (a + 10).toNat 0, b.getD (a + 11).toNat 0, b.getD (a + 12).toNat 0, b.getD (a + 13).toNat 0, b.getD (a + 14).toNat 0, b.getD (a + 15).toNat 0] = (b.drop a.toNat).take 16 := by
  rw [← sixteen ((b.drop a.toNat).take 16) (by rw [List.length_take, List.length_drop]; omega)]
  have e : ∀ i : Nat, i < 16 → ((b.drop a.toNat).take 16).getD i 0 = b.getD (a + i).toNat 0 := fun i hi => by
    simp only [List.getD, List.getElem?_take, List.getElem?_drop, if_pos hi]
    rw [show a.toNat + i = (a + (i : Int)).toNat by omega]
  rw [e 0 (by omega), e 1 (by omega), e 2 (by omega), e 3 (by omega), e 4 (by omega), e 5 (by omega), e 6 (by omega), e 7 (by omega), e 8 (by omega), e 9 (by omega), e 10 (by omega), e 11 (by omega), e 12 (by omega), e 13 (by omega), e 14 (by omega), e 15 (by omega)]
  rfl

theorem sat_getInts : Sat Try.prog 28 getIntsSp := by
  refine fnwp_sat (C := X3) ssX3 5 28 getIntsSp fun (b : List Int) hk hp => Eq.mpr (getInts_nf b) ?_
  have hb : ∀ c ∈ b, 0 ≤ c ∧ c ≤ 255 := fun c hc => has_byte (hk.2 c hc)
  have hl : b.length ≤ 100000 := hp
  refine ⟨by omega, ?_⟩
  cases h : decLen 1 b with
  | err e =>
    have := decLen_err h
    refine ⟨fun _ => by unfold decList; rw [h]; rfl, fun h' => ?_⟩
    have h' : (!decide (e = 0)) = false := h'
    simp at h'
    omega
  | ok n u =>
    obtain ⟨_, h2, h3, h4, h5⟩ := decLen_ok (by omega) hb h
    refine ⟨fun h' => by simp [Dec.triple] at h', fun _ => ⟨fun x => getI decI b (decList 1 decI b) n x, fun x => (n - x.2.2).toNat,
      getI_zero h h2 (show 0 ≤ u by omega) (show u ≤ (b.length : Int) by omega), fun x hI => ⟨fun hc => ?_, fun hc => ?_⟩⟩⟩
    · have hc : x.2.2 < n := of_decide_eq_true hc
      have hI' := hI
      obtain ⟨g1, g2, g3, g4, g5, _⟩ := hI'
      have hx : x.1.length ≤ 100000 := by omega
      rw [take_drop_all]
      refine ⟨⟨g4, g5⟩, trivial, ?_⟩
      have hd := drop_byte hb x.2.1.toNat
      have hdl : ((b.drop x.2.1.toNat).length : Int) = b.length - x.2.1 := by rw [List.length_drop]; omega
      cases h1 : decI (b.drop x.2.1.toNat) with
      | err e =>
        have := decI_err h1
        refine ⟨fun _ => by rw [getI_err hI hc h1]; rfl, fun h' => ?_⟩
        have h' : (!decide (e = 0)) = false := h'
        simp at h'
        omega
      | ok y v =>
        obtain ⟨_, q1, q2, q3, _⟩ := enc_dec hd h1
        refine ⟨fun h' => by simp [decO] at h', fun _ => ?_⟩
        exact ⟨room16 bytesI (by simp; omega), by show isI64 (x.2.1 + v); unfold isI64; omega, by unfold isI64; omega, getI_step hI hc h1 (show 0 ≤ v by omega) (show x.2.1 + v ≤ (b.length : Int) by omega), by dsimp only; omega⟩
    · have hc : ¬ x.2.2 < n := of_decide_eq_false hc
      rw [getI_end hI hc]
      rfl
theorem sat_rGetInts : Sat Try.prog 29 getIntsSp := by
  refine fnwp_sat (C := X3) ssX3 5 29 getIntsSp fun (b : List Int) hk hp => Eq.mpr (rGetInts_nf b) ?_
  have hb : ∀ c ∈ b, 0 ≤ c ∧ c ≤ 255 := fun c hc => has_byte (hk.2 c hc)
  have hl : b.length ≤ 100000 := hp
  refine ⟨by omega, ?_⟩
  cases h : decLen 1 b with
  | err e =>
    have := decLen_err h
    refine ⟨fun _ => by unfold decList; rw [h]; rfl, fun h' => ?_⟩
    have h' : (!decide (e = 0)) = false := h'
    simp at h'
    omega
  | ok n u =>
    obtain ⟨_, h2, h3, h4, h5⟩ := decLen_ok (by omega) hb h
    refine ⟨fun h' => by simp [Dec.triple] at h', fun _ => ⟨fun x => getI decI b (decList 1 decI b) n x, fun x => (n - x.2.2).toNat,
      getI_zero h h2 (show 0 ≤ u by omega) (show u ≤ (b.length : Int) by omega), fun x hI => ⟨fun hc => ?_, fun hc => ?_⟩⟩⟩
    · have hc : x.2.2 < n := of_decide_eq_true hc
      have hI' := hI
      obtain ⟨g1, g2, g3, g4, g5, _⟩ := hI'
      have hx : x.1.length ≤ 100000 := by omega
      rw [take_drop_all]
      refine ⟨⟨g4, g5⟩, trivial, ?_⟩
      have hd := drop_byte hb x.2.1.toNat
      have hdl : ((b.drop x.2.1.toNat).length : Int) = b.length - x.2.1 := by rw [List.length_drop]; omega
      cases h1 : decI (b.drop x.2.1.toNat) with
      | err e =>
        have := decI_err h1
        refine ⟨fun _ => by rw [getI_err hI hc h1]; rfl, fun h' => ?_⟩
        have h' : (!decide (e = 0)) = false := h'
        simp at h'
        omega
      | ok y v =>
        obtain ⟨_, q1, q2, q3, _⟩ := enc_dec hd h1
        refine ⟨fun h' => by simp [decO] at h', fun _ => ?_⟩
        exact ⟨room16 bytesI (by simp; omega), by show isI64 (x.2.1 + v); unfold isI64; omega, by unfold isI64; omega, getI_step hI hc h1 (show 0 ≤ v by omega) (show x.2.1 + v ≤ (b.length : Int) by omega), by dsimp only; omega⟩
    · have hc : ¬ x.2.2 < n := of_decide_eq_false hc
      rw [getI_end hI hc]
      rfl
theorem sat_getStrings : Sat Try.prog 31 getStringsSp := by
  refine fnwp_sat (C := X3) ssX3 5 31 getStringsSp fun (b : List Int) hk hp => Eq.mpr (getStrings_nf b) ?_
  have hb : ∀ c ∈ b, 0 ≤ c ∧ c ≤ 255 := fun c hc => has_byte (hk.2 c hc)
  have hl : b.length ≤ 100000 := hp
  refine ⟨by omega, ?_⟩
  cases h : decLen 1 b with
  | err e =>
    have := decLen_err h
    refine ⟨fun _ => by unfold decList; rw [h]; rfl, fun h' => ?_⟩
    have h' : (!decide (e = 0)) = false := h'
    simp at h'
    omega
  | ok n u =>
    obtain ⟨_, h2, h3, h4, h5⟩ := decLen_ok (by omega) hb h
    refine ⟨fun h' => by simp [Dec.triple] at h', fun _ => ⟨fun x => getI decBytes b (decList 1 decBytes b) n x, fun x => (n - x.2.2).toNat,
      getI_zero h h2 (show 0 ≤ u by omega) (show u ≤ (b.length : Int) by omega), fun x hI => ⟨fun hc => ?_, fun hc => ?_⟩⟩⟩
    · have hc : x.2.2 < n := of_decide_eq_true hc
      have hI' := hI
      obtain ⟨g1, g2, g3, g4, g5, _⟩ := hI'
      have hx : x.1.length ≤ 100000 := by omega
      rw [take_drop_all]
      refine ⟨⟨g4, g5⟩, trivial, ?_⟩
      have hd := drop_byte hb x.2.1.toNat
      have hdl : ((b.drop x.2.1.toNat).length : Int) = b.length - x.2.1 := by rw [List.length_drop]; omega
      cases h1 : decBytes (b.drop x.2.1.toNat) with
      | err e =>
        have := decBytes_err h1
        refine ⟨fun _ => by rw [getI_err hI hc h1]; rfl, fun h' => ?_⟩
        have h' : (!decide (e = 0)) = false := h'
        simp at h'
        omega
      | ok y v =>
        obtain ⟨q1, q2, q3⟩ := decBytes_ok hd h1
        refine ⟨fun h' => by simp [Dec.triple] at h', fun _ => ?_⟩
        exact ⟨room16 bytesS (by simp; omega), by show isI64 (x.2.1 + v); unfold isI64; omega, by unfold isI64; omega, getI_step hI hc h1 (show 0 ≤ v by omega) (show x.2.1 + v ≤ (b.length : Int) by omega), by dsimp only; omega⟩
    · have hc : ¬ x.2.2 < n := of_decide_eq_false hc
      rw [getI_end hI hc]
      rfl
theorem sat_rGetStrings : Sat Try.prog 32 getStringsSp := by
  refine fnwp_sat (C := X3) ssX3 5 32 getStringsSp fun (b : List Int) hk hp => Eq.mpr (rGetStrings_nf b) ?_
  have hb : ∀ c ∈ b, 0 ≤ c ∧ c ≤ 255 := fun c hc => has_byte (hk.2 c hc)
  have hl : b.length ≤ 100000 := hp
  refine ⟨by omega, ?_⟩
  cases h : decLen 1 b with
  | err e =>
    have := decLen_err h
    refine ⟨fun _ => by unfold decList; rw [h]; rfl, fun h' => ?_⟩
    have h' : (!decide (e = 0)) = false := h'
    simp at h'
    omega
  | ok n u =>
    obtain ⟨_, h2, h3, h4, h5⟩ := decLen_ok (by omega) hb h
    refine ⟨fun h' => by simp [Dec.triple] at h', fun _ => ⟨fun x => getI decBytes b (decList 1 decBytes b) n x, fun x => (n - x.2.2).toNat,
      getI_zero h h2 (show 0 ≤ u by omega) (show u ≤ (b.length : Int) by omega), fun x hI => ⟨fun hc => ?_, fun hc => ?_⟩⟩⟩
    · have hc : x.2.2 < n := of_decide_eq_true hc
      have hI' := hI
      obtain ⟨g1, g2, g3, g4, g5, _⟩ := hI'
      have hx : x.1.length ≤ 100000 := by omega
      rw [take_drop_all]
      refine ⟨⟨g4, g5⟩, trivial, ?_⟩
      have hd := drop_byte hb x.2.1.toNat
      have hdl : ((b.drop x.2.1.toNat).length : Int) = b.length - x.2.1 := by rw [List.length_drop]; omega
      cases h1 : decBytes (b.drop x.2.1.toNat) with
      | err e =>
        have := decBytes_err h1
        refine ⟨fun _ => by rw [getI_err hI hc h1]; rfl, fun h' => ?_⟩
        have h' : (!decide (e = 0)) = false := h'
        simp at h'
        omega
      | ok y v =>
        obtain ⟨q1, q2, q3⟩ := decBytes_ok hd h1
        refine ⟨fun h' => by simp [Dec.triple] at h', fun _ => ?_⟩
        exact ⟨room16 bytesS (by simp; omega), by show isI64 (x.2.1 + v); unfold isI64; omega, by unfold isI64; omega, getI_step hI hc h1 (show 0 ≤ v by omega) (show x.2.1 + v ≤ (b.length : Int) by omega), by dsimp only; omega⟩
    · have hc : ¬ x.2.2 < n := of_decide_eq_false hc
      rw [getI_end hI hc]
      rfl
theorem sat_getDigests : Sat Try.prog 34 getDigestsSp := by
  refine fnwp_sat (C := X3) ssX3 5 34 getDigestsSp fun (b : List Int) hk hp => Eq.mpr (getDigests_nf b) ?_
  have hb : ∀ c ∈ b, 0 ≤ c ∧ c ≤ 255 := fun c hc => has_byte (hk.2 c hc)
  have hl : b.length ≤ 100000 := hp
  refine ⟨by omega, ?_⟩
  cases h : decLen 16 b with
  | err e =>
    have := decLen_err h
    refine ⟨fun _ => by unfold decList; rw [h]; rfl, fun h' => ?_⟩
    have h' : (!decide (e = 0)) = false := h'
    simp at h'
    omega
  | ok n u =>
    obtain ⟨_, h2, h3, h4, h5⟩ := decLen_ok (by omega) hb h
    refine ⟨fun h' => by simp [Dec.triple] at h', fun _ => ⟨fun x => getI decDigest b (decList 16 decDigest b) n x ∧ x.2.1 = u + 16 * x.2.2, fun x => (n - x.2.2).toNat,
      ⟨getI_zero h h2 (show 0 ≤ u by omega) (show u ≤ (b.length : Int) by omega), show u = u + 16 * 0 by omega⟩, fun x ⟨hI, hat⟩ => ⟨fun hc => ?_, fun hc => ?_⟩⟩⟩
    · have hc : x.2.2 < n := of_decide_eq_true hc
      have hI' := hI
      obtain ⟨g1, g2, g3, g4, g5, _⟩ := hI'
      have hx : x.1.length ≤ 100000 := by omega
      rw [take_drop_all]
      have hdl : ((b.drop x.2.1.toNat).length : Int) = b.length - x.2.1 := by rw [List.length_drop]; omega
      have h16 : x.2.1 + 16 ≤ b.length := by omega
      refine ⟨⟨g4, g5⟩, by omega, fun h' => by simp [decDigest, Dec.triple] at h', fun _ => ?_⟩
      have e := sixteen ((b.drop x.2.1.toNat).take 16) (by rw [List.length_take]; omega)
      have e' : ((decDigest (b.drop x.2.1.toNat)).triple []).1 = (b.drop x.2.1.toNat).take 16 := rfl
      rw [e', e]
      exact ⟨room16 bytesD (by simp; omega), by show isI64 (x.2.1 + 16); unfold isI64; omega, by unfold isI64; omega,
        ⟨getI_step hI hc (u := 16) rfl (by omega) h16, by show x.2.1 + 16 = u + 16 * (x.2.2 + 1); omega⟩, by dsimp only; omega⟩
    · have hc : ¬ x.2.2 < n := of_decide_eq_false hc
      rw [getI_end hI hc]
      rfl
theorem sat_rGetDigests : Sat Try.prog 35 getDigestsSp := by
  refine fnwp_sat (C := X3) ssX3 5 35 getDigestsSp fun (b : List Int) hk hp => Eq.mpr (rGetDigests_nf b) ?_
  have hb : ∀ c ∈ b, 0 ≤ c ∧ c ≤ 255 := fun c hc => has_byte (hk.2 c hc)
  have hl : b.length ≤ 100000 := hp
  refine ⟨by omega, ?_⟩
  cases h : decLen 16 b with
  | err e =>
    have := decLen_err h
    refine ⟨fun _ => by unfold decList; rw [h]; rfl, fun h' => ?_⟩
    have h' : (!decide (e = 0)) = false := h'
    simp at h'
    omega
  | ok n u =>
    obtain ⟨_, h2, h3, h4, h5⟩ := decLen_ok (by omega) hb h
    refine ⟨fun h' => by simp [Dec.triple] at h', fun _ => ⟨fun x => getI decDigest b (decList 16 decDigest b) n x ∧ x.2.1 = u + 16 * x.2.2, fun x => (n - x.2.2).toNat,
      ⟨getI_zero h h2 (show 0 ≤ u by omega) (show u ≤ (b.length : Int) by omega), show u = u + 16 * 0 by omega⟩, fun x ⟨hI, hat⟩ => ⟨fun hc => ?_, fun hc => ?_⟩⟩⟩
    · have hc : x.2.2 < n := of_decide_eq_true hc
      have hI' := hI
      obtain ⟨g1, g2, g3, g4, g5, _⟩ := hI'
      have hx : x.1.length ≤ 100000 := by omega
      have h16 : x.2.1 + 16 ≤ b.length := by omega
      rw [sixteen' b x.2.1 g4 h16]
      simp only [i64_iff]
      exact ⟨by omega, ⟨by omega, by omega⟩, ⟨by omega, by omega⟩, by omega, by omega, ⟨by omega, by omega⟩, ⟨by omega, by omega⟩, by omega, by omega, ⟨by omega, by omega⟩, ⟨by omega, by omega⟩, by omega, by omega, ⟨by omega, by omega⟩, ⟨by omega, by omega⟩, by omega, by omega, ⟨by omega, by omega⟩, ⟨by omega, by omega⟩, by omega, by omega, ⟨by omega, by omega⟩, ⟨by omega, by omega⟩, by omega, by omega, ⟨by omega, by omega⟩, ⟨by omega, by omega⟩, by omega, by omega, ⟨by omega, by omega⟩, ⟨by omega, by omega⟩, by omega, by omega, ⟨by omega, by omega⟩, ⟨by omega, by omega⟩, by omega, by omega, ⟨by omega, by omega⟩, ⟨by omega, by omega⟩, by omega, by omega, ⟨by omega, by omega⟩, ⟨by omega, by omega⟩, by omega, by omega, ⟨by omega, by omega⟩, ⟨by omega, by omega⟩, by omega, by omega, ⟨by omega, by omega⟩, ⟨by omega, by omega⟩, by omega, by omega, ⟨by omega, by omega⟩, ⟨by omega, by omega⟩, by omega, by omega, ⟨by omega, by omega⟩, ⟨by omega, by omega⟩, by omega, by omega, ⟨by omega, by omega⟩, ⟨by omega, by omega⟩, by omega,
        room16 bytesD (by simp; omega), by omega, by omega,
        ⟨getI_step hI hc (u := 16) rfl (by omega) h16, by show x.2.1 + 16 = u + 16 * (x.2.2 + 1); omega⟩, by omega⟩
    · have hc : ¬ x.2.2 < n := of_decide_eq_false hc
      rw [getI_end hI hc]
      rfl
end Go.Proofs.Ytgneefndofeoaaa
