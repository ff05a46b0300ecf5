import Derived.Test.YtgneefndofeoaaaWi
namespace Go.PL
set_option linter.unusedVariables false
open Go.AM

theorem decMany_canon {α : Type} {one : List Int → Dec α} {enc : α → List Int} {k : Nat}
    (hone : ∀ (b : List Int) (x : α) (v : Int), (∀ c ∈ b, 0 ≤ c ∧ c ≤ 255) → k ≤ b.length → one b = .ok x v → 0 ≤ v ∧ v ≤ b.length ∧ (k = 0 ∨ v = k) ∧ enc x = b.take v.toNat) :
    ∀ (n : Nat) (a : Int) (b : List Int) (xs : List α) (u : Int), (∀ c ∈ b, 0 ≤ c ∧ c ≤ 255) → n * k ≤ b.length → decMany one n a b = .ok xs u →
      a ≤ u ∧ u ≤ a + b.length ∧ xs.length = n ∧ xs.flatMap enc = b.take (u - a).toNat
  | 0, a, b, xs, u, hb, hn, h => by
    unfold decMany at h
    cases h
    exact ⟨Int.le_refl _, by omega, rfl, by simp⟩
  | n + 1, a, b, xs, u, hb, hn, h => by
    rw [Nat.succ_mul] at hn
    unfold decMany at h
    split at h
    · cases h
    · rename_i x v h1
      obtain ⟨v0, v1, v2, v3⟩ := hone b x v hb (by omega) h1
      split at h
      · cases h
      · rename_i xs' u' h2
        cases h
        have hd : (b.drop v.toNat).length = b.length - v.toNat := List.length_drop
        obtain ⟨i1, i2, i3, i4⟩ := decMany_canon hone n (a + v) (b.drop v.toNat) xs' u (drop_byte hb _) (by
          rcases v2 with rfl | v2
          · omega
          · omega) h2
        rw [hd] at i2
        refine ⟨by omega, by omega, by simp [i3], ?_⟩
        rw [List.flatMap_cons, v3, i4]
        have e : (u - a).toNat = v.toNat + (u - (a + v)).toNat := by omega
        rw [e, List.take_add]
theorem decList_canon {α : Type} {one : List Int → Dec α} {enc : α → List Int} {k : Nat} {least : Int} (hl : 1 ≤ least) (hkl : (k : Int) ≤ least)
    (hone : ∀ (b : List Int) (x : α) (v : Int), (∀ c ∈ b, 0 ≤ c ∧ c ≤ 255) → k ≤ b.length → one b = .ok x v → 0 ≤ v ∧ v ≤ b.length ∧ (k = 0 ∨ v = k) ∧ enc x = b.take v.toNat)
    {b : List Int} (hb : ∀ c ∈ b, 0 ≤ c ∧ c ≤ 255) {xs : List α} {u : Int} (h : decList least one b = .ok xs u) :
    0 ≤ u ∧ u ≤ b.length ∧ (xs.length : Int) ≤ b.length ∧ encList enc xs = b.take u.toNat := by
  unfold decList at h
  split at h
  · cases h
  · rename_i n v h1
    obtain ⟨g1, g2, g3, g4, g5⟩ := decLen_ok hl hb h1
    obtain ⟨_, _, _, _, e5⟩ := enc_dec hb g1
    have hd : (b.drop v.toNat).length = b.length - v.toNat := List.length_drop
    have hnk : n * (k : Int) ≤ n * least := Int.mul_le_mul_of_nonneg_left hkl g2
    have hn1 : n * 1 ≤ n * least := Int.mul_le_mul_of_nonneg_left hl g2
    have hnk' : ((n.toNat * k : Nat) : Int) = n * k := by rw [Int.natCast_mul, Int.toNat_of_nonneg g2]
    obtain ⟨i1, i2, i3, i4⟩ := decMany_canon hone n.toNat v (b.drop v.toNat) xs u (drop_byte hb _) (by omega) h
    rw [hd] at i2
    refine ⟨by omega, by omega, by omega, ?_⟩
    unfold encList
    rw [i4, show ((xs.length : Nat) : Int) = n by omega, e5, show u.toNat = v.toNat + (u - v).toNat by omega, List.take_add]
theorem decBytes_canon {b : List Int} (hb : ∀ c ∈ b, 0 ≤ c ∧ c ≤ 255) {s : List Int} {u : Int} (h : decBytes b = .ok s u) : encBytes s = b.take u.toNat := by
  unfold decBytes at h
  split at h
  · cases h
  · rename_i n v h1
    obtain ⟨g1, g2, g3, g4, g5⟩ := decLen_ok (by omega) hb h1
    obtain ⟨_, _, _, _, e5⟩ := enc_dec hb g1
    cases h
    unfold encBytes
    rw [List.length_take, List.length_drop, show ((min n.toNat (b.length - v.toNat) : Nat) : Int) = n by omega, e5, show (v + n).toNat = v.toNat + n.toNat by omega, List.take_add]
theorem ints_canon {b : List Int} (hb : ∀ c ∈ b, 0 ≤ c ∧ c ≤ 255) {xs : List Int} {u : Int} (h : decList 1 decI b = .ok xs u) :
    0 ≤ u ∧ u ≤ b.length ∧ (xs.length : Int) ≤ b.length ∧ encList encI xs = b.take u.toNat :=
  decList_canon (k := 0) (by omega) (by omega) (fun b x v hb _ h => by
    obtain ⟨_, h2, _, h4, h5⟩ := enc_dec hb h
    exact ⟨by omega, h4, .inl rfl, h5⟩) hb h
theorem strings_canon {b : List Int} (hb : ∀ c ∈ b, 0 ≤ c ∧ c ≤ 255) {xs : List (List Int)} {u : Int} (h : decList 1 decBytes b = .ok xs u) :
    0 ≤ u ∧ u ≤ b.length ∧ (xs.length : Int) ≤ b.length ∧ encList encBytes xs = b.take u.toNat :=
  decList_canon (k := 0) (by omega) (by omega) (fun b x v hb _ h => by
    obtain ⟨h2, h4, _⟩ := decBytes_ok hb h
    exact ⟨by omega, h4, .inl rfl, decBytes_canon hb h⟩) hb h
theorem digests_canon {b : List Int} (hb : ∀ c ∈ b, 0 ≤ c ∧ c ≤ 255) {xs : List (List Int)} {u : Int} (h : decList 16 decDigest b = .ok xs u) :
    0 ≤ u ∧ u ≤ b.length ∧ (xs.length : Int) ≤ b.length ∧ encList (fun x : List Int => x) xs = b.take u.toNat :=
  decList_canon (k := 16) (by omega) (by omega) (fun b x v hb hk h => by
    unfold decDigest at h
    cases h
    exact ⟨by omega, by omega, .inr rfl, rfl⟩) hb h
/-- The parts of a text are no longer than the text. -/
theorem strings_short {b : List Int} {xs : List (List Int)} (h : ∃ u : Nat, encList encBytes xs = b.take u) : ∀ s ∈ xs, s.length ≤ b.length := by
  obtain ⟨u, h⟩ := h
  intro s hs
  have h1 : (encBytes s).length ≤ (xs.flatMap encBytes).length := by
    induction xs with
    | nil => cases hs
    | cons y ys ih =>
      clear h
      rw [List.flatMap_cons, List.length_append]
      rcases List.mem_cons.1 hs with rfl | hs
      · omega
      · have : ∀ (ys : List (List Int)), s ∈ ys → (encBytes s).length ≤ (ys.flatMap encBytes).length := by
          intro ys
          induction ys with
          | nil => intro h; cases h
          | cons z zs ih =>
            intro h
            rw [List.flatMap_cons, List.length_append]
            rcases List.mem_cons.1 h with rfl | h
            · omega
            · have := ih h; omega
        have := this ys hs
        omega
  have h2 : (encList encBytes xs).length = (b.take u).length := by rw [h]
  unfold encList encBytes at h2 h1
  simp only [List.length_append, List.length_take] at h2 h1
  omega
end Go.PL
