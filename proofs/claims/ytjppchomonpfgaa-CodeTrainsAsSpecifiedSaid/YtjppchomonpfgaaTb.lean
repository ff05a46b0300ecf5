import Derived.Test.YtjppchomonpfgaaTa
--@drop
namespace Go.PL
open Go.AM

theorem coord_false {m x : Int} (h : x < -m ∨ m < x) : coordOk m x = false := by
  unfold coordOk
  simp
  omega
theorem coord_true {m x : Int} (h : -m ≤ x) (h' : x ≤ m) : coordOk m x = true := by
  unfold coordOk
  simp [h, h']
theorem vecB_false {m : Int} {v : List Int} {i : Nat} (hi : i < v.length) (h : coordOk m (v.getD i 0) = false) : vecB m v = false := by
  unfold vecB
  rw [Bool.and_eq_false_iff]
  left
  rw [List.all_eq_false]
  exact ⟨_, getD_mem v 0 hi, by rw [h]; simp⟩
theorem vecB_iff {m : Int} {v : List Int} : vecB m v = true ↔ (∀ x ∈ v, -m ≤ x ∧ x ≤ m) ∧ 1 ≤ v.length ∧ v.length ≤ 32 := by
  unfold vecB coordOk
  simp
theorem vec_small {m : Int} {v : List Int} (h : vecB m v = true) {k : Nat} {c : Int} (hk : 32 ≤ k) (hc : m ≤ c) : small k c v := by
  obtain ⟨h1, h2, h3⟩ := vecB_iff.1 h
  exact ⟨by omega, fun x hx => ⟨by have := (h1 x hx).1; omega, by have := (h1 x hx).2; omega⟩⟩
theorem sq_size {c x : Int} (h : -c ≤ x ∧ x ≤ c) : 0 ≤ x * x ∧ x * x ≤ c * c := by
  have hm : 0 ≤ sizeS x ∧ sizeS x ≤ c := by unfold sizeS; omega
  have e : x * x = sizeS x * sizeS x := by
    unfold sizeS
    rcases Int.le_total x (-x) with h | h
    · rw [Int.max_eq_right h, Int.neg_mul_neg]
    · rw [Int.max_eq_left h]
  rw [e]
  exact ⟨Int.mul_nonneg hm.1 hm.1, Int.mul_le_mul hm.2 hm.2 hm.1 (by omega)⟩
theorem mul_size {c x y : Int} (h : -c ≤ x ∧ x ≤ c) (h' : -c ≤ y ∧ y ≤ c) : -(c * c) ≤ x * y ∧ x * y ≤ c * c := by
  have e1 : (x + y) * (x + y) = x * x + y * y + 2 * (x * y) := by
    simp only [Int.add_mul, Int.mul_add, Int.mul_comm y x]; omega
  have e2 : (x - y) * (x - y) = x * x + y * y - 2 * (x * y) := by
    simp only [Int.sub_mul, Int.mul_sub, Int.mul_comm y x]; omega
  have h1 := (sq_size h).2
  have h2 := (sq_size h').2
  have h3 := (sq_size (c := max (x + y) (-(x + y))) (x := x + y) (by omega)).1
  have h4 := (sq_size (c := max (x - y) (-(x - y))) (x := x - y) (by omega)).1
  omega
theorem step_bound {m c M n x : Int} (hM : c * c ≤ M) (hM2 : c ≤ M) (hx : -c ≤ x ∧ x ≤ c) (h0 : 0 ≤ n) : 0 ≤ normStep m n x ∧ normStep m n x ≤ n + M := by
  have h2 := sq_size hx
  unfold normStep sizeS
  split
  · omega
  · split <;> omega
theorem norm_bound {m c M : Int} (hM : c * c ≤ M) (hM2 : c ≤ M) (v : List Int) : ∀ (n : Int), (∀ x ∈ v, -c ≤ x ∧ x ≤ c) → 0 ≤ n → 0 ≤ normFrom m n v ∧ normFrom m n v ≤ n + v.length * M := by
  induction v with
  | nil => intro n _ h0; simp [normFrom]; omega
  | cons x v ih =>
    intro n hv h0
    have hs := step_bound (m := m) hM hM2 (hv x (by simp)) h0
    have := ih (normStep m n x) (fun y hy => hv y (by simp [hy])) hs.1
    simp only [normFrom, List.foldl_cons, List.length_cons] at this ⊢
    refine ⟨this.1, ?_⟩
    have e : ((v.length + 1 : Nat) : Int) * M = v.length * M + M := by rw [Int.natCast_add, Int.add_mul]; simp
    omega
theorem subS_length : ∀ {a b : List Int}, a.length = b.length → (subS a b).length = a.length
  | [], [], _ => rfl
  | a :: l, b :: m, h => by simp only [subS, List.length_cons]; rw [subS_length (by simpa using h)]
  | [], _ :: _, h => by simp at h
  | _ :: _, [], h => by simp at h
theorem subS_small {c d : Int} : ∀ {a b : List Int}, (∀ x ∈ a, -c ≤ x ∧ x ≤ c) → (∀ x ∈ b, -d ≤ x ∧ x ≤ d) → ∀ x ∈ subS a b, -(c + d) ≤ x ∧ x ≤ c + d
  | a :: l, b :: m, h1, h2, x, hx => by
    simp only [subS, List.mem_cons] at hx
    rcases hx with rfl | hx
    · have := h1 a (by simp); have := h2 b (by simp); omega
    · exact subS_small (fun x hx => h1 x (by simp [hx])) (fun x hx => h2 x (by simp [hx])) x hx
  | [], _, _, _, x, hx => by simp [subS] at hx
  | _ :: _, [], _, _, x, hx => by simp [subS] at hx

/-- A norm, so far. -/
def normI (m : Int) (v : List Int) (x : Int × Int) : Prop := 0 ≤ x.2 ∧ x.2 ≤ v.length ∧ 0 ≤ x.1 ∧ x.1 ≤ x.2 * 64000000 ∧ normS m v = normFrom m x.1 (v.drop x.2.toNat)
theorem normI_zero (m : Int) (v : List Int) : normI m v (0, 0) := ⟨by simp, by simp, by simp, by simp, by simp [normS]⟩
theorem normI_step {m : Int} {v : List Int} {x : Int × Int} (h : normI m v x) (hv : ∀ y ∈ v, -8000 ≤ y ∧ y ≤ 8000) (hl : v.length ≤ 64) (hc : x.2 < v.length) :
    normI m v (normStep m x.1 (v.getD x.2.toNat 0), x.2 + 1) ∧ 0 ≤ normStep m x.1 (v.getD x.2.toNat 0) ∧ normStep m x.1 (v.getD x.2.toNat 0) ≤ 4160000000 ∧ 0 ≤ x.1 ∧ x.1 ≤ 4096000000 ∧
      (-8000 ≤ v.getD x.2.toNat 0 ∧ v.getD x.2.toNat 0 ≤ 8000) ∧ (0 ≤ v.getD x.2.toNat 0 * v.getD x.2.toNat 0 ∧ v.getD x.2.toNat 0 * v.getD x.2.toNat 0 ≤ 64000000) := by
  obtain ⟨h0, h1, h2, h3, h4⟩ := h
  have m1 := hv _ (getD_mem v 0 (i := x.2.toNat) (by omega))
  have hs := step_bound (m := m) (c := 8000) (M := 64000000) (by decide) (by decide) m1 h2
  have hq := sq_size m1
  rw [drop_step v 0 h0 hc] at h4
  simp only [normFrom, List.foldl_cons] at h4
  exact ⟨⟨by dsimp only; omega, by dsimp only; omega, hs.1, by dsimp only; omega, h4⟩, hs.1, by omega, by omega, by omega, m1, hq.1, by omega⟩
theorem normI_end {m : Int} {v : List Int} {x : Int × Int} (h : normI m v x) (hc : ¬ x.2 < v.length) : x.1 = normS m v := by
  obtain ⟨h0, h1, h2, h3, h4⟩ := h
  rw [drop_end v hc] at h4
  exact h4.symm

theorem getD_set_self {v : List Int} {i : Nat} (x : Int) (h : i < v.length) : (v.set i x).getD i 0 = x := by
  rw [List.getD_eq_getElem?_getD, List.getElem?_set_self h]; rfl
theorem getD_set_ne {v : List Int} {i j : Nat} (x : Int) (h : j ≠ i) : (v.set i x).getD j 0 = v.getD j 0 := by
  rw [List.getD_eq_getElem?_getD, List.getElem?_set_ne (Ne.symm h), ← List.getD_eq_getElem?_getD]
theorem ext_getD {a b : List Int} (hl : a.length = b.length) (h : ∀ i, i < a.length → a.getD i 0 = b.getD i 0) : a = b := by
  apply List.ext_getElem hl
  intro i h1 h2
  have := h i h1
  rwa [List.getD_eq_getElem?_getD, List.getD_eq_getElem?_getD, List.getElem?_eq_getElem h1, List.getElem?_eq_getElem h2] at this
theorem subS_getD : ∀ {a b : List Int} {i : Nat}, a.length = b.length → i < a.length → (subS a b).getD i 0 = a.getD i 0 - b.getD i 0
  | x :: a, y :: b, 0, _, _ => rfl
  | x :: a, y :: b, i + 1, h, hi => by
    have := subS_getD (a := a) (b := b) (i := i) (by simpa using h) (by simpa using hi)
    simpa [subS] using this
  | [], _, _, _, hi => by simp at hi
  | _ :: _, [], _, h, _ => by simp at h
theorem getD_small {k : Nat} {c : Int} {v : List Int} (h : small k c v) (h0 : 0 ≤ c) (i : Nat) : -c ≤ v.getD i 0 ∧ v.getD i 0 ≤ c := by
  rcases Nat.lt_or_ge i v.length with hi | hi
  · exact h.2 _ (getD_mem v 0 hi)
  · rw [List.getD_eq_getElem?_getD, List.getElem?_eq_none hi]
    simp; omega
theorem dotS_nil (b : List Int) : dotS [] b = 0 := by cases b <;> rfl
theorem sgnS_eq0 {x y : Int} : sgnS x y = 0 ↔ x = y := by
  unfold sgnS
  split
  · omega
  · split <;> omega
theorem lexS_cons (x y : Int) (a b : List Int) : lexS (x :: a) (y :: b) = if sgnS x y = 0 then lexS a b else sgnS x y := by
  unfold sgnS
  rw [lexS]
  split
  · simp
  · split <;> simp
theorem lexS_eq0 : ∀ {a b : List Int}, lexS a b = 0 ↔ a = b
  | [], [] => by simp [lexS]
  | [], _ :: _ => by simp [lexS]
  | _ :: _, [] => by simp [lexS]
  | x :: a, y :: b => by
    rw [lexS_cons]
    have := lexS_eq0 (a := a) (b := b)
    split
    · rename_i h
      rw [sgnS_eq0] at h
      rw [this]; simp [h]
    · rename_i h
      rw [sgnS_eq0] at h
      simp [h, sgnS_eq0]
theorem cmpS_eq0 {a b : List Int} : cmpS a b = 0 ↔ a = b := by
  unfold cmpS
  split
  · rename_i h; constructor
    · omega
    · rintro rfl; omega
  · split
    · rename_i h; constructor
      · omega
      · rintro rfl; omega
    · exact lexS_eq0
theorem csum_bound (l : List (List Int)) (i : Nat) (h : ∀ v ∈ l, ∀ x ∈ v, -4000 ≤ x ∧ x ≤ 4000) : -(4000 * (l.length : Int)) ≤ csum l i ∧ csum l i ≤ 4000 * (l.length : Int) := by
  unfold csum
  induction l with
  | nil => simp
  | cons v l ih =>
    have := ih (fun w hw => h w (by simp [hw]))
    have hv : -4000 ≤ v.getD i 0 ∧ v.getD i 0 ≤ 4000 := by
      rcases Nat.lt_or_ge i v.length with hi | hi
      · exact h v (by simp) _ (getD_mem v 0 hi)
      · rw [List.getD_eq_getElem?_getD, List.getElem?_eq_none hi]; simp
    simp only [List.map_cons, List.sum_cons, List.length_cons]
    omega
theorem csum_take (l : List (List Int)) (i : Nat) {k : Int} (h0 : 0 ≤ k) (h : k < l.length) : csum (l.take (k + 1).toNat) i = csum (l.take k.toNat) i + (l.getD k.toNat []).getD i 0 := by
  rw [take_step l [] h0 h]
  unfold csum
  rw [List.map_append, List.sum_append]
  simp
theorem meanS_length (l : List (List Int)) : (meanS l).length = (l.getD 0 []).length := by simp [meanS]
theorem meanS_getD (l : List (List Int)) {i : Nat} (h : i < (l.getD 0 []).length) : (meanS l).getD i 0 = csum l i / (l.length : Int) := by
  rw [List.getD_eq_getElem?_getD, meanS, List.getElem?_map, List.getElem?_range h]
  rfl
theorem floor_eq {a b : Int} (hb : 0 < b) : (a.tmod b < 0 → a.tdiv b - 1 = a / b) ∧ (¬ a.tmod b < 0 → a.tdiv b = a / b) := by
  have h2 := Int.mul_ediv_add_emod a b
  have h3 := Int.emod_nonneg a (show b ≠ 0 by omega)
  have h4 := Int.emod_lt_of_pos a hb
  rcases Int.le_total 0 a with ha | ha
  · have e1 : a.tdiv b = a / b := Int.tdiv_eq_ediv_of_nonneg ha
    have e2 : a.tmod b = a % b := Int.tmod_eq_emod_of_nonneg ha
    rw [e1, e2]
    exact ⟨fun h => by omega, fun _ => rfl⟩
  · -- a ≤ 0
    obtain ⟨c, rfl⟩ : ∃ c, a = -c := ⟨-a, by omega⟩
    have e1 : (-c).tdiv b = -(c / b) := by rw [Int.neg_tdiv, Int.tdiv_eq_ediv_of_nonneg (by omega)]
    have e2 : (-c).tmod b = -(c % b) := by rw [Int.neg_tmod, Int.tmod_eq_emod_of_nonneg (by omega)]
    have h5 := Int.mul_ediv_add_emod c b
    have h6 := Int.emod_nonneg c (show b ≠ 0 by omega)
    have h7 := Int.emod_lt_of_pos c hb
    rw [e1, e2]
    have key : ∀ q r : Int, b * q + r = -c → 0 ≤ r → r < b → q = (-c) / b := by
      intro q r hq h0 hr
      have : (b * q + r) / b = q := by
        rw [Int.add_comm, Int.add_mul_ediv_left _ _ (by omega), Int.ediv_eq_zero_of_lt h0 hr]; omega
      rw [← this, hq]
    refine ⟨fun h => ?_, fun h => ?_⟩
    · refine key _ (b - c % b) ?_ (by omega) (by omega)
      rw [Int.mul_sub, Int.mul_neg, Int.mul_one]
      omega
    · refine key _ 0 ?_ (by omega) (by omega)
      rw [Int.mul_neg]
      omega
theorem isI64_small {n : Int} (h : -9000000000000000000 ≤ n) (h' : n ≤ 9000000000000000000) : isI64 n := by unfold isI64; omega
end Go.PL
namespace Go.Proofs.Ytjppchomonpfgaa
open Go.AM Go.PL
set_option linter.unusedVariables false

theorem bytesI8 : Try.prog.bytesOf 3 = 8 := by kernel_rfl
theorem room8 {C : Ctx} {t : TypeId} {n : Nat} (hb : C.P.bytesOf t = 8) (h : n ≤ 17592186044416) : roomP C t n := by
  unfold roomP
  rw [hb]
  omega
theorem len_i64 {α : Type} {l : List α} (h : l.length ≤ maxLen) : l.length ≤ 9223372036854775807 := h
theorem ssV0 : SpecSound V0 := mkctx_sound trivial trivial

theorem sat_size : Sat Try.prog 73 sizeSp := by
  refine sat_nf (C := V0) ssV0 size_nf fun (n : Int) hk hp => ?_
  have hk : isI64 n := has_i64.1 hk
  unfold isI64 at hk
  have hp : -9223372036854775808 < n := hp
  simp only [decide_eq_true_eq, decide_eq_false_iff_not, i64_iff, sizeS]
  omega

theorem valid_ok {m : Int} (v : List Int) (hlen : v.length ≤ 9223372036854775807) (hm : m = 1000 ∨ m = 2000) :
    ∃ (I : Int → Prop), ∃ (μ : Int → Nat), I (0 : Int) ∧ ∀ (x : Int), I x → (decide (x < (↑v.length : Int)) = true →
      ((0 : Int) ≤ x ∧ x < (↑v.length : Int)) ∧ (decide (v.getD x.toNat (0 : Int) < -m) = true → false = vecB m v) ∧ (decide (v.getD x.toNat (0 : Int) < -m) = false → ((0 : Int) ≤ x ∧ x < (↑v.length : Int)) ∧
        (decide (m < v.getD x.toNat (0 : Int)) = true → false = vecB m v) ∧ (decide (m < v.getD x.toNat (0 : Int)) = false → isI64 (x + (1 : Int)) ∧ I (x + (1 : Int)) ∧ μ (x + (1 : Int)) < μ x))) ∧
      (decide (x < (↑v.length : Int)) = false → (decide ((1 : Int) ≤ (↑v.length : Int)) = true → decide ((↑v.length : Int) ≤ (32 : Int)) = vecB m v) ∧ (decide ((1 : Int) ≤ (↑v.length : Int)) = false → false = vecB m v)) := by
  simp only [decide_eq_true_eq, decide_eq_false_iff_not, i64_iff]
  refine ⟨fun i => 0 ≤ i ∧ i ≤ v.length ∧ v.all (coordOk m) = (v.drop i.toNat).all (coordOk m), fun i => ((v.length : Int) - i).toNat, ⟨by omega, by omega, by simp⟩, fun i hI => ?_⟩
  obtain ⟨h0, h1, h2⟩ := hI
  dsimp only
  refine ⟨fun hc => ?_, fun hc => ?_⟩
  · refine ⟨⟨h0, hc⟩, fun hx => (vecB_false (by omega) (coord_false (.inl hx))).symm, fun hx => ⟨⟨h0, hc⟩, fun hy => (vecB_false (by omega) (coord_false (.inr hy))).symm, fun hy => ⟨by omega, ⟨by omega, by omega, ?_⟩, by omega⟩⟩⟩
    rw [h2, drop_step v 0 h0 hc, List.all_cons, coord_true (by omega) (by omega), Bool.true_and]
  · rw [drop_end v hc] at h2
    simp at h2
    refine ⟨fun h => ?_, fun h => ?_⟩
    · unfold vecB
      rw [Bool.eq_iff_iff]
      simp
      exact ⟨fun h' => ⟨h2, by omega, by omega⟩, fun h' => by omega⟩
    · unfold vecB
      rw [Bool.eq_iff_iff]
      simp
      intro _ _
      omega
theorem sat_rValid : Sat Try.prog 44 validSp :=
  sat_nf (C := V0) ssV0 rValid_nf fun (v : List Int) hk _ => (valid_ok v (len_i64 hk.1) (.inl rfl))
theorem sat_rMetric : Sat Try.prog 34 metricSp := by
  refine sat_nf (C := V0) ssV0 rMetric_nf fun (m : Int) hk _ => ?_
  refine ⟨fun h => ?_, fun h => ?_⟩ <;> simp [h]
theorem sat_rSub : Sat Try.prog 57 subSp := by
  refine sat_nf (C := V0) ssV0 (fun x => rSub_nf x.1 x.2) fun (⟨a, b⟩ : List Int × List Int) hk hp => ?_
  try dsimp only
  obtain ⟨ha, hb, hl⟩ : small 64 4000 a ∧ small 64 4000 b ∧ a.length = b.length := hp
  simp only [decide_eq_true_eq, decide_eq_false_iff_not, i64_iff]
  refine ⟨fun x => 0 ≤ x.2 ∧ x.2 ≤ a.length ∧ x.1.length ≤ 64 ∧ x.1.length = x.2.toNat ∧ subS a b = x.1 ++ subS (a.drop x.2.toNat) (b.drop x.2.toNat), fun x => ((a.length : Int) - x.2).toNat, ⟨by simp, by simp, by simp, by simp, by simp⟩, fun ⟨o, i⟩ hI => ?_⟩
  obtain ⟨h0, h1, h2, h3, h4⟩ := hI
  simp only at h0 h1 h2 h3 h4 ⊢
  have hal := ha.1
  refine ⟨fun hc => ?_, fun hc => ?_⟩
  · have m1 := ha.2 _ (Go.PL.getD_mem a 0 (i := i.toNat) (by omega))
    have m2 := hb.2 _ (Go.PL.getD_mem b 0 (i := i.toNat) (by omega))
    refine ⟨⟨h0, hc⟩, ⟨h0, by omega⟩, by omega, room8 bytesI8 (by simp; omega), by omega, ⟨by omega, by omega, by simp; omega, by simp; omega, ?_⟩, by omega⟩
    rw [h4, drop_step a 0 h0 hc, drop_step b 0 h0 (by omega)]
    simp [subS]
  · rw [drop_end a hc] at h4
    simpa [subS] using h4.symm
/-- A product, so far. -/
def dotI (a b : List Int) (x : Int × Int) : Prop := 0 ≤ x.2 ∧ x.2 ≤ a.length ∧ -(x.2 * 64000000) ≤ x.1 ∧ x.1 ≤ x.2 * 64000000 ∧ dotS a b = x.1 + dotS (a.drop x.2.toNat) (b.drop x.2.toNat)
theorem dotI_step {a b : List Int} {x : Int × Int} (h : dotI a b x) (ha : small 64 8000 a) (hb : small 64 8000 b) (hl : a.length = b.length) (hc : x.2 < a.length) :
    dotI a b (x.1 + a.getD x.2.toNat 0 * b.getD x.2.toNat 0, x.2 + 1) ∧ isI64 (a.getD x.2.toNat 0 * b.getD x.2.toNat 0) ∧ isI64 (x.1 + a.getD x.2.toNat 0 * b.getD x.2.toNat 0) ∧ isI64 (x.2 + 1) := by
  obtain ⟨h0, h1, h2, h3, h4⟩ := h
  have m1 := ha.2 _ (Go.PL.getD_mem a 0 (i := x.2.toNat) (by omega))
  have m2 := hb.2 _ (Go.PL.getD_mem b 0 (i := x.2.toNat) (by omega))
  have hm := mul_size m1 m2
  have hal := ha.1
  rw [drop_step a 0 h0 hc, drop_step b 0 h0 (by omega), dotS] at h4
  generalize a.getD x.2.toNat 0 * b.getD x.2.toNat 0 = z at *
  exact ⟨⟨by dsimp only; omega, by dsimp only; omega, by dsimp only; omega, by dsimp only; omega, by rw [h4]; dsimp only; omega⟩, isI64_small (by omega) (by omega), isI64_small (by omega) (by omega), isI64_small (by omega) (by omega)⟩
theorem dotI_end {a b : List Int} {x : Int × Int} (h : dotI a b x) (hc : ¬ x.2 < a.length) : x.1 = dotS a b := by
  obtain ⟨h0, h1, h2, h3, h4⟩ := h
  rw [drop_end a hc, dotS_nil] at h4
  omega
theorem sat_rCompare : Sat Try.prog 46 cmpSp := by
  refine sat_nf (C := V0) ssV0 (fun x => rCompare_nf x.1 x.2) fun (⟨a, b⟩ : List Int × List Int) hk hp => ?_
  try dsimp only
  have hla : a.length ≤ 9223372036854775807 := len_i64 hk.1.1
  simp only [decide_eq_true_eq, decide_eq_false_iff_not, i64_iff]
  refine ⟨fun h => by unfold cmpS; rw [if_pos (by omega)], fun h => ⟨fun h' => by unfold cmpS; rw [if_neg (by omega), if_pos (by omega)], fun h' => ?_⟩⟩
  have hl : a.length = b.length := by omega
  have e : cmpS a b = lexS a b := by unfold cmpS; rw [if_neg (by omega), if_neg (by omega)]
  rw [e]
  refine ⟨fun i => 0 ≤ i ∧ i ≤ a.length ∧ lexS a b = lexS (a.drop i.toNat) (b.drop i.toNat), fun i => ((a.length : Int) - i).toNat, ⟨by omega, by omega, by simp⟩, fun i ⟨h0, h1, h2⟩ => ⟨fun hc => ?_, fun hc => ?_⟩⟩
  · rw [drop_step a 0 h0 hc, drop_step b 0 h0 (by omega), lexS] at h2
    refine ⟨⟨h0, hc⟩, ⟨h0, by omega⟩, fun g => by rw [h2, if_pos g], fun g => ⟨⟨h0, hc⟩, ⟨h0, by omega⟩, fun g' => by rw [h2, if_neg g, if_pos g'], fun g' => ⟨by omega, ⟨by omega, by omega, by rw [h2, if_neg g, if_neg g']⟩, by dsimp only; omega⟩⟩⟩
  · rw [drop_end a hc, drop_end b (by omega), lexS] at h2
    exact h2.symm
end Go.Proofs.Ytjppchomonpfgaa
