import Derived.Test.YtohbapfijafecaaV4a
namespace Go.Proofs.Ytohbapfijafecaa
open Go.AM Go.PL
set_option linter.unusedVariables false

theorem bytesI : Try.prog.bytesOf 3 = 8 := by kernel_rfl
theorem room8 {C : Ctx} {t : TypeId} {n : Nat} (hb : C.P.bytesOf t = 8) (h : n ≤ 17592186044416) : roomP C t n := by
  unfold roomP
  rw [hb]
  omega

theorem sat_size : Sat Try.prog 41 sizeSp := by
  refine fnwp_sat (C := V0) (ctx_sound trivial) 5 41 sizeSp fun (n : Int) hk hp => Eq.mpr (size_nf n) ?_
  have hk : IntKind.i64.has n := hk
  unfold IntKind.has at hk
  simp [IntKind.min, IntKind.max, IntKind.bits, IntKind.signed] at hk
  have hp : -9223372036854775808 < n := hp
  simp only [decide_eq_true_eq, decide_eq_false_iff_not, i64_iff, sizeS]
  omega

theorem coord_false {m x : Int} (h : x < -m ∨ m < x) : coordOk m x = false := by
  unfold coordOk
  simp
  omega
theorem coord_true {m x : Int} (h : -m ≤ x) (h' : x ≤ m) : coordOk m x = true := by
  unfold coordOk
  simp [h, h']

theorem vecB_false {m : Int} {v : List Int} {i : Nat} (hi : i < v.length) (h : coordOk m (v.getD i 0) = false) : vecB m v = false := by
  unfold vecB
  rw [Bool.and_eq_false_iff]
  left
  rw [List.all_eq_false]
  exact ⟨_, getD_mem v 0 hi, by rw [h]; simp⟩

theorem vecB_iff {m : Int} {v : List Int} : vecB m v = true ↔ (∀ x ∈ v, -m ≤ x ∧ x ≤ m) ∧ 1 ≤ v.length ∧ v.length ≤ 32 := by
  unfold vecB coordOk
  simp

theorem vec_small {m : Int} {v : List Int} (h : vecB m v = true) {k : Nat} {c : Int} (hk : 32 ≤ k) (hc : m ≤ c) : small k c v := by
  obtain ⟨h1, h2, h3⟩ := vecB_iff.1 h
  exact ⟨by omega, fun x hx => ⟨by have := (h1 x hx).1; omega, by have := (h1 x hx).2; omega⟩⟩

theorem sat_rValid : Sat Try.prog 35 rValidSp := by
  refine fnwp_sat (C := V0) (ctx_sound trivial) 5 35 rValidSp fun (v : List Int) hk _ => Eq.mpr (rValid_nf v) ?_
  have hlen : v.length ≤ maxLen := hk.1
  unfold maxLen at hlen
  simp only [decide_eq_true_eq, decide_eq_false_iff_not, i64_iff]
  refine ⟨fun i => 0 ≤ i ∧ i ≤ v.length ∧ v.all (coordOk 1000) = (v.drop i.toNat).all (coordOk 1000), fun i => ((v.length : Int) - i).toNat, ⟨by omega, by omega, by simp⟩, fun i hI => ?_⟩
  obtain ⟨h0, h1, h2⟩ := hI
  dsimp only
  refine ⟨fun hc => ?_, fun hc => ?_⟩
  · refine ⟨⟨h0, hc⟩, fun hx => (vecB_false (by omega) (coord_false (.inl hx))).symm, fun hx => ⟨⟨h0, hc⟩, fun hy => (vecB_false (by omega) (coord_false (.inr hy))).symm, fun hy => ⟨by omega, ⟨by omega, by omega, ?_⟩, by omega⟩⟩⟩
    rw [h2, drop_step v 0 h0 hc, List.all_cons, coord_true (by omega) (by omega), Bool.true_and]
  · rw [drop_end v hc] at h2
    simp at h2
    refine ⟨fun h => ?_, fun h => ?_⟩
    · unfold vecOk vecB
      rw [Bool.eq_iff_iff]
      simp
      exact ⟨fun h' => ⟨h2, by omega, by omega⟩, fun h' => by omega⟩
    · unfold vecOk vecB
      rw [Bool.eq_iff_iff]
      simp
      intro _ _
      omega

theorem sat_rSub : Sat Try.prog 37 rSubSp := by
  refine fnwp_sat (C := V0) (ctx_sound trivial) 5 37 rSubSp fun (⟨a, b⟩ : List Int × List Int) hk hp => Eq.mpr (rSub_nf a b) ?_
  obtain ⟨ha, hb, hl⟩ : small 64 4000 a ∧ small 64 4000 b ∧ a.length = b.length := hp
  simp only [decide_eq_true_eq, decide_eq_false_iff_not, i64_iff]
  refine ⟨fun x => 0 ≤ x.2 ∧ x.2 ≤ a.length ∧ x.1.length ≤ 64 ∧ x.1.length = x.2.toNat ∧ subS a b = x.1 ++ subS (a.drop x.2.toNat) (b.drop x.2.toNat), fun x => ((a.length : Int) - x.2).toNat, ⟨by simp, by simp, by simp, by simp, by simp⟩, fun ⟨o, i⟩ hI => ?_⟩
  obtain ⟨h0, h1, h2, h3, h4⟩ := hI
  simp only at h0 h1 h2 h3 h4 ⊢
  have hal := ha.1
  refine ⟨fun hc => ?_, fun hc => ?_⟩
  · have m1 := ha.2 _ (getD_mem a 0 (i := i.toNat) (by omega))
    have m2 := hb.2 _ (getD_mem b 0 (i := i.toNat) (by omega))
    refine ⟨⟨h0, hc⟩, ⟨h0, by omega⟩, by omega, room8 bytesI (by simp; omega), by omega, ⟨by omega, by omega, by simp; omega, by simp; omega, ?_⟩, by omega⟩
    rw [h4, drop_step a 0 h0 hc, drop_step b 0 h0 (by omega)]
    simp [subS]
  · rw [drop_end a hc] at h4
    simpa [subS] using h4.symm

theorem sq_size {c x : Int} (h : -c ≤ x ∧ x ≤ c) : 0 ≤ x * x ∧ x * x ≤ c * c := by
  have hm : 0 ≤ sizeS x ∧ sizeS x ≤ c := by unfold sizeS; omega
  have e : x * x = sizeS x * sizeS x := by
    unfold sizeS
    rcases Int.le_total x (-x) with h | h
    · rw [Int.max_eq_right h, Int.neg_mul_neg]
    · rw [Int.max_eq_left h]
  rw [e]
  exact ⟨Int.mul_nonneg hm.1 hm.1, Int.mul_le_mul hm.2 hm.2 hm.1 (by omega)⟩

theorem step_bound {m c M n x : Int} (hM : c * c ≤ M) (hM2 : c ≤ M) (hx : -c ≤ x ∧ x ≤ c) (h0 : 0 ≤ n) : 0 ≤ normStep m n x ∧ normStep m n x ≤ n + M := by
  have h2 := sq_size hx
  unfold normStep sizeS
  split
  · omega
  · split <;> omega

theorem norm_bound {m c M : Int} (hM : c * c ≤ M) (hM2 : c ≤ M) (v : List Int) : ∀ (n : Int), (∀ x ∈ v, -c ≤ x ∧ x ≤ c) → 0 ≤ n → 0 ≤ normFrom m n v ∧ normFrom m n v ≤ n + v.length * M := by
  induction v with
  | nil => intro n _ h0; simp [normFrom]; omega
  | cons x v ih =>
    intro n hv h0
    have hs := step_bound (m := m) hM hM2 (hv x (by simp)) h0
    have := ih (normStep m n x) (fun y hy => hv y (by simp [hy])) hs.1
    simp only [normFrom, List.foldl_cons, List.length_cons] at this ⊢
    refine ⟨this.1, ?_⟩
    have e : ((v.length + 1 : Nat) : Int) * M = v.length * M + M := by rw [Int.natCast_add, Int.add_mul]; simp
    omega

theorem sat_rNorm : Sat Try.prog 36 rNormSp := by
  refine fnwp_sat (C := V1) (ctx_sound ⟨sat_size, sat_rValid, sat_rSub, trivial⟩) 5 36 rNormSp fun (⟨m, v⟩ : Int × List Int) hk hp => Eq.mpr (rNorm_nf m v) ?_
  have hp : small 64 8000 v := hp
  obtain ⟨hl, hx⟩ := hp
  simp only [decide_eq_true_eq, decide_eq_false_iff_not, i64_iff]
  refine ⟨fun x => 0 ≤ x.2 ∧ x.2 ≤ v.length ∧ 0 ≤ x.1 ∧ x.1 ≤ x.2 * 64000000 ∧ normS m v = normFrom m x.1 (v.drop x.2.toNat), fun x => ((v.length : Int) - x.2).toNat, ⟨by simp, by simp, by simp, by simp, by simp [normS]⟩, fun ⟨n, i⟩ hI => ?_⟩
  obtain ⟨h0, h1, h2, h3, h4⟩ := hI
  simp only at h0 h1 h2 h3 h4 ⊢
  refine ⟨fun hc => ?_, fun hc => ?_⟩
  · have m1 := hx _ (getD_mem v 0 (i := i.toNat) (by omega))
    have hs := step_bound (m := m) (c := 8000) (M := 64000000) (by decide) (by decide) m1 h2
    have hq := sq_size m1
    rw [drop_step v 0 h0 hc] at h4
    simp only [normFrom, List.foldl_cons] at h4
    generalize v.getD i.toNat 0 = x at *
    refine ⟨fun hm => ?_, fun hm => ⟨fun hm2 => ?_, fun hm2 => ?_⟩⟩
    · have e : normStep m n x = n + sizeS x := by unfold normStep; rw [if_pos hm]
      rw [e] at hs h4
      refine ⟨⟨h0, hc⟩, by omega, by omega, by omega, ⟨by omega, by omega, by omega, by omega, h4⟩, by omega⟩
    · have e : normStep m n x = n + x * x := by unfold normStep; rw [if_neg hm, if_pos hm2]
      rw [e] at hs h4
      refine ⟨⟨h0, hc⟩, ⟨h0, hc⟩, by omega, by omega, by omega, ⟨by omega, by omega, by omega, by omega, h4⟩, by omega⟩
    · have e : normStep m n x = max n (sizeS x) := by unfold normStep; rw [if_neg hm, if_neg hm2]
      rw [e] at hs h4
      refine ⟨⟨h0, hc⟩, by omega, by omega, ⟨by omega, by omega, by omega, by omega, h4⟩, by omega⟩
  · rw [drop_end v hc] at h4
    exact h4.symm

theorem subS_length : ∀ {a b : List Int}, a.length = b.length → (subS a b).length = a.length
  | [], [], _ => rfl
  | a :: l, b :: m, h => by simp only [subS, List.length_cons]; rw [subS_length (by simpa using h)]
  | [], _ :: _, h => by simp at h
  | _ :: _, [], h => by simp at h

theorem subS_small {k : Nat} {c d : Int} : ∀ {a b : List Int}, (∀ x ∈ a, -c ≤ x ∧ x ≤ c) → (∀ x ∈ b, -d ≤ x ∧ x ≤ d) → ∀ x ∈ subS a b, -(c + d) ≤ x ∧ x ≤ c + d
  | a :: l, b :: m, h1, h2, x, hx => by
    simp only [subS, List.mem_cons] at hx
    rcases hx with rfl | hx
    · have := h1 a (by simp); have := h2 b (by simp); omega
    · exact subS_small (k := k) (fun x hx => h1 x (by simp [hx])) (fun x hx => h2 x (by simp [hx])) x hx
  | [], _, _, _, x, hx => by simp [subS] at hx
  | _ :: _, [], _, _, x, hx => by simp [subS] at hx

theorem sat_rAlike : Sat Try.prog 26 rAlikeSp := by
  refine fnwp_sat (C := V1) (ctx_sound ⟨sat_size, sat_rValid, sat_rSub, trivial⟩) 5 26 rAlikeSp fun (⟨a, b⟩ : List Int × List Int) hk hp => Eq.mpr (rAlike_nf a b) ?_
  unfold alikeB
  refine ⟨trivial, fun h => ⟨trivial, fun h' => ?_, fun h' => ?_⟩, fun h => ?_⟩
  · rw [h, h', Bool.true_and, Bool.true_and, decide_eq_decide]; omega
  · rw [h, h']; rfl
  · rw [h]; rfl

theorem sat_rKey : Sat Try.prog 28 rKeySp := by
  refine fnwp_sat (C := V2) (ctx_sound ⟨sat_rSub, sat_rNorm, trivial⟩) 5 28 rKeySp fun (⟨m, a, b⟩ : Int × List Int × List Int) hk hp => Eq.mpr (rKey_nf m a b) ?_
  obtain ⟨ha, hb, hl⟩ : small 64 4000 a ∧ small 64 4000 b ∧ a.length = b.length := hp
  refine ⟨⟨ha, hb, hl⟩, ⟨by rw [subS_length hl]; exact ha.1, subS_small (k := 0) ha.2 hb.2⟩, rfl⟩
end Go.Proofs.Ytohbapfijafecaa
