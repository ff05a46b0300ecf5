import Derived.Test.YtighbmlnlmbbkaaHl
namespace Go.Proofs.Ytighbmlnlmbbkaa
open Go.AM Go.PL
set_option linter.unusedVariables false
theorem satHE : AllSat bs.P tHE := ⟨sat_rValidH, sat_ints, sat_rInts, sat_getInts, sat_rGetInts, satHR1⟩
theorem ssHE : SpecSound HE := mkctx_sound satHE trivial
theorem bytesI8 : bs.P.bytesOf 3 = 8 := by kernel_rfl
theorem roomI {C : Ctx} (hC : C.P = bs.P) {n : Nat} (h : n ≤ 17592186044416) : roomP C 3 n := by
  unfold roomP
  rw [hC, bytesI8]
  omega
theorem nums_step (l : List Hit) {i : Int} (h0 : 0 ≤ i) (h1 : i < l.length) : numsH (l.take (i + 1).toNat) = numsH (l.take i.toNat) ++ [(l.getD i.toNat hit0).1, (l.getD i.toNat hit0).2.1, (l.getD i.toNat hit0).2.2.1] := by
  unfold numsH
  rw [take_step l hit0 h0 h1, List.flatMap_append]
  simp
theorem nums_len : ∀ (l : List Hit), (numsH l).length = l.length * 3
  | [] => rfl
  | h :: l => by
    have := nums_len l
    unfold numsH at *
    rw [List.flatMap_cons, List.length_append, this]
    simp
    omega
theorem sat_encH : Sat bs.P 33 encHSp := by
  refine sat_nf (C := HE) ssHE enc_nf fun (l : List Hit) hk hp => ?_
  have hp : l.length ≤ 1000 := hp
  simp only [show (((0 : Int), (0 : Int), (0 : Int), ()) : Hit) = hit0 from rfl]
  refine ⟨fun x => 0 ≤ x.1 ∧ x.1 ≤ l.length ∧ x.2 = numsH (l.take x.1.toNat), fun x => (l.length - x.1).toNat, ⟨by omega, by omega, rfl⟩, ?_⟩
  rintro ⟨i, n⟩ ⟨h0, h1, h2⟩
  dsimp only at h0 h1 h2 ⊢
  subst h2
  refine ⟨fun hlt => ?_, fun hlt => ?_⟩
  · have hlt := dt hlt
    refine ⟨⟨h0, hlt⟩, roomI rfl (by rw [nums_len, List.length_take]; simp; omega), i64s (by omega) (by omega), ⟨by omega, by omega, (nums_step l h0 hlt).symm⟩, by omega⟩
  · have hlt := df hlt
    rw [List.take_of_length_le (by omega)]
    exact ⟨by unfold small2; rw [nums_len]; omega, rfl⟩
theorem sat_rEncH : Sat bs.P 34 encHSp := by
  refine sat_nf (C := HE) ssHE rEnc_nf fun (l : List Hit) hk hp => ?_
  have hp : l.length ≤ 1000 := hp
  simp only [show (((0 : Int), (0 : Int), (0 : Int), ()) : Hit) = hit0 from rfl]
  refine ⟨fun x => 0 ≤ x.1 ∧ x.1 ≤ l.length ∧ x.2 = numsH (l.take x.1.toNat), fun x => (l.length - x.1).toNat, ⟨by omega, by omega, rfl⟩, ?_⟩
  rintro ⟨i, n⟩ ⟨h0, h1, h2⟩
  dsimp only at h0 h1 h2 ⊢
  subst h2
  refine ⟨fun hlt => ?_, fun hlt => ?_⟩
  · have hlt := dt hlt
    have h3 : roomP HE 3 ((numsH (l.take i.toNat)).length + [(l.getD i.toNat hit0).1, (l.getD i.toNat hit0).2.1, (l.getD i.toNat hit0).2.2.1].length) := roomI rfl (by rw [nums_len, List.length_take]; simp; omega)
    have h4 : isI64 (i + 1) := i64s (by omega) (by omega)
    have h5 := (nums_step l h0 hlt).symm
    simp only [h0, hlt, h3, h4, h5, true_and, and_true]
    omega
  · have hlt := df hlt
    rw [List.take_of_length_le (by omega)]
    exact ⟨by unfold small2; rw [nums_len]; omega, rfl⟩
/-! hits out of numbers -/
theorem hitsOf_append : ∀ (m : Nat) (a b : List Int), a.length = 3 * m → hitsOf (a ++ b) = hitsOf a ++ hitsOf b
  | 0, a, b, h => by
    have : a = [] := List.length_eq_zero_iff.1 (by omega)
    subst this
    rfl
  | m + 1, a, b, h => by
    match a, h with
    | x :: y :: z :: a, h =>
      simp only [List.length_cons] at h
      have ih := hitsOf_append m a b (by omega)
      show (x, y, z, ()) :: hitsOf (a ++ b) = ((x, y, z, ()) :: hitsOf a) ++ hitsOf b
      rw [ih]
      rfl
theorem drop3 (n : List Int) (i : Nat) (h : i + 3 ≤ n.length) : (n.drop i).take 3 = [n.getD i 0, n.getD (i + 1) 0, n.getD (i + 2) 0] := by
  apply List.ext_getElem?
  intro j
  by_cases hj : j < 3
  · rw [List.getElem?_take_of_lt hj, List.getElem?_drop]
    have hlt : i + j < n.length := by omega
    rcases (show j = 0 ∨ j = 1 ∨ j = 2 by omega) with rfl | rfl | rfl <;> simp [hlt, show i < n.length by omega]
  · rw [List.getElem?_eq_none (by simp; omega), List.getElem?_eq_none (by simp; omega)]
theorem hits_step (n : List Int) {i : Int} (h0 : 0 ≤ i) (h3 : i % 3 = 0) (h1 : i + 3 ≤ n.length) : hitsOf (n.take (i + 3).toNat) = hitsOf (n.take i.toNat) ++ [(n.getD i.toNat 0, n.getD (i + 1).toNat 0, n.getD (i + 2).toNat 0, ())] := by
  have e : n.take (i + 3).toNat = n.take i.toNat ++ (n.drop i.toNat).take 3 := by
    rw [show (i + 3).toNat = i.toNat + 3 by omega, List.take_add]
  rw [e, hitsOf_append (i.toNat / 3) _ _ (by rw [List.length_take]; omega), drop3 n i.toNat (by omega), show (i + 1).toNat = i.toNat + 1 by omega, show (i + 2).toNat = i.toNat + 2 by omega]
  rfl
theorem hits_len : ∀ (m : Nat) (n : List Int), n.length ≤ m → (hitsOf n).length ≤ n.length
  | 0, n, h => by
    have : n = [] := List.length_eq_zero_iff.1 (by omega)
    subst this
    exact Nat.le_refl _
  | m + 1, n, h => by
    unfold hitsOf
    split
    · rename_i a b c r
      have := hits_len m r (by simp at h; omega)
      simp
      omega
    · simp
theorem decMany_len {α : Type} {one : List Int → Dec α} : ∀ (n : Nat) (a : Int) (b : List Int) {xs : List α} {u : Int}, decMany one n a b = .ok xs u → xs.length = n
  | 0, a, b, xs, u, h => by
    simp only [decMany, Dec.ok.injEq] at h
    rw [← h.1]; rfl
  | n + 1, a, b, xs, u, h => by
    unfold decMany at h
    split at h
    · cases h
    · rename_i x u1 _
      split at h
      · cases h
      · rename_i ys a1 hm
        simp only [Dec.ok.injEq] at h
        rw [← h.1, List.length_cons, decMany_len n _ _ hm]
theorem dec_len {b : List Int} (hb : ∀ c ∈ b, 0 ≤ c ∧ c ≤ 255) : ((decList 1 decI b).triple []).1.length ≤ b.length := by
  cases h : decList 1 decI b with
  | err e => simp [Dec.triple]
  | ok xs u =>
    unfold decList at h
    split at h
    · cases h
    · rename_i n u1 hn
      have hl := decMany_len _ _ _ h
      unfold decLen at hn
      split at hn
      · cases hn
      · rename_i n2 u2 hd
        obtain ⟨_, h1, h2, h3, _⟩ := enc_dec hb hd
        split at hn
        · cases hn
        · split at hn
          · cases hn
          · simp only [Dec.ok.injEq] at hn
            show xs.length ≤ b.length
            have e1 := hn.1
            have e2 : ((b.length : Int) - u2) / 1 = b.length - u2 := Int.ediv_one _
            omega
theorem sat_decH : Sat bs.P 31 decHSp := by
  refine sat_nf (C := HE) ssHE (fun x => dec_nf x.1 x.2) fun (⟨b, k⟩ : List Int × Int) hk hp => ?_
  try dsimp only
  have hs : small2 b := hp
  have hb : ∀ c ∈ b, 0 ≤ c ∧ c ≤ 255 := fun c hc => has_byte (hk.1.2 c hc)
  have hlen := dec_len hb
  unfold decH
  unfold small2 at hs
  generalize (decList 1 decI b).triple [] = t at hlen ⊢
  obtain ⟨n, used, e⟩ := t
  dsimp only at hlen ⊢
  have htm : (n.length : Int).tmod 3 = ((n.length % 3 : Nat) : Int) := rfl
  rw [htm]
  unfold decHN
  refine ⟨hs, fun he => ?_, fun he => ⟨fun hu => ?_, fun hu => ⟨by decide, fun hm => ?_, fun hm => ⟨fun h => (by cases h), fun _ => ?_⟩⟩⟩⟩
  · rw [if_pos (ndt he)]
  · rw [if_neg (by simpa using he), if_pos (ndt hu)]
  · have hm := ndt hm
    rw [if_neg (by simpa using he), if_neg (by simpa using hu), if_pos (by omega)]
  · have hm : n.length % 3 = 0 := by have := ndf hm; omega
    refine ⟨fun x => 0 ≤ x.1 ∧ x.1 ≤ n.length ∧ x.1 % 3 = 0 ∧ x.2 = hitsOf (n.take x.1.toNat), fun x => (n.length - x.1).toNat, ⟨by omega, by omega, rfl, rfl⟩, ?_⟩
    rintro ⟨i, out⟩ ⟨h0, h1, h2, h3⟩
    dsimp only at h0 h1 h2 h3 ⊢
    subst h3
    refine ⟨fun hlt => ?_, fun hlt => ?_⟩
    · have hlt := dt hlt
      have h3 : i + 3 ≤ n.length := by omega
      have emin : min (3 : Int) ((List.take (n.length - i.toNat) (List.drop i.toNat n)).length : Int) = 3 := by
        rw [List.length_take, List.length_drop]
        omega
      have et : List.take ((i + 3).toNat - i.toNat) (List.drop i.toNat n) = [n.getD i.toNat 0, n.getD (i + 1).toNat 0, n.getD (i + 2).toNat 0] := by
        rw [show (i + 3).toNat - i.toNat = 3 by omega, drop3 n i.toNat (by omega), show (i + 1).toNat = i.toNat + 1 by omega, show (i + 2).toNat = i.toNat + 2 by omega]
      have hl1 := hits_len _ (n.take i.toNat) (Nat.le_refl _)
      rw [List.length_take] at hl1
      rw [emin, et]
      simp only [List.getD_cons_zero, List.getD_cons_succ]
      have h5 : isI64 (i + 3) := i64s (by omega) (by omega)
      have h8 : roomP HE 27 ((hitsOf (n.take i.toNat)).length + [((n.getD i.toNat 0, n.getD (i + 1).toNat 0, n.getD (i + 2).toNat 0, ()) : Hit)].length) := roomH rfl (by simp; omega)
      have h9 := (hits_step n h0 h2 (by omega)).symm
      have a4 : 0 ≤ i + 3 ∧ i + 3 ≤ n.length ∧ (i + 3) % 3 = 0 := by omega
      have a5 : (n.length - (i + 3)).toNat < (n.length - i).toNat := by omega
      refine ⟨⟨h0, h1⟩, h5, h5, ⟨h0, by omega, h3, trivial⟩, by simp, by simp, by simp, ?_⟩
      simp only [h5, h8, h9, a4, a5, and_self]
    · have hlt := df hlt
      rw [List.take_of_length_le (by omega)]
      refine ⟨trivial, fun hv => ?_, fun hv => ?_⟩
      · rw [if_neg (by simpa using he), if_neg (by simpa using hu), if_neg (by omega), if_neg (by rw [nt hv]; simp)]
      · rw [if_neg (by simpa using he), if_neg (by simpa using hu), if_neg (by omega), if_pos (nf hv)]
theorem sat_rDecH : Sat bs.P 32 rDecHSp := by
  refine sat_nf (C := HE) ssHE (fun x => rDec_nf x.1 x.2) fun (⟨b, k⟩ : List Int × Int) hk hp => ?_
  try dsimp only
  have hs : small2 b := hp
  have hb : ∀ c ∈ b, 0 ≤ c ∧ c ≤ 255 := fun c hc => has_byte (hk.1.2 c hc)
  have hlen := dec_len hb
  unfold decH
  unfold small2 at hs
  generalize (decList 1 decI b).triple [] = t at hlen ⊢
  obtain ⟨n, used, e⟩ := t
  dsimp only at hlen ⊢
  have htm : (n.length : Int).tmod 3 = ((n.length % 3 : Nat) : Int) := rfl
  rw [htm]
  unfold decHN rdOf
  refine ⟨hs, fun he => ?_, fun he => ⟨fun hu => ?_, fun hu => ?_⟩⟩
  · rw [if_pos (ndt he)]
  · rw [if_neg (by simpa using he), if_pos (ndt hu)]
  · refine ⟨fun x => 0 ≤ x.1 ∧ x.1 ≤ n.length ∧ x.1 % 3 = 0 ∧ x.2 = hitsOf (n.take x.1.toNat), fun x => (n.length - x.1).toNat, ⟨by omega, by omega, rfl, rfl⟩, ?_⟩
    rintro ⟨i, out⟩ ⟨h0, h1, h2, h3⟩
    dsimp only at h0 h1 h2 h3 ⊢
    subst h3
    have h5 : isI64 (i + 2) := i64s (by omega) (by omega)
    refine ⟨h5, fun hlt => ?_, fun hlt => ⟨by decide, fun hm => ?_, fun hm => ⟨trivial, fun hv => ?_, fun hv => ?_⟩⟩⟩
    · have hlt := dt hlt
      have h6 : isI64 (i + 1) := i64s (by omega) (by omega)
      have h7 : isI64 (i + 3) := i64s (by omega) (by omega)
      have hl1 := hits_len _ (n.take i.toNat) (Nat.le_refl _)
      rw [List.length_take] at hl1
      have h8 : roomP HE 27 ((hitsOf (n.take i.toNat)).length + [((n.getD i.toNat 0, n.getD (i + 1).toNat 0, n.getD (i + 2).toNat 0, ()) : Hit)].length) := roomH rfl (by simp; omega)
      have h9 := (hits_step n h0 h2 (by omega)).symm
      have a1 : 0 ≤ i + 1 ∧ i + 1 < n.length := by omega
      have a2 : 0 ≤ i + 2 ∧ i + 2 < n.length := by omega
      have a3 : 0 ≤ i ∧ i < n.length := by omega
      have a4 : 0 ≤ i + 3 ∧ i + 3 ≤ n.length ∧ (i + 3) % 3 = 0 := by omega
      have a5 : (n.length - (i + 3)).toNat < (n.length - i).toNat := by omega
      simp only [h5, h6, h7, h8, h9, a1, a2, a3, a4, a5, and_self]
    · have hm := ndt hm
      rw [if_neg (by simpa using he), if_neg (by simpa using hu), if_pos (by omega)]
    all_goals
      have hm : n.length % 3 = 0 := by have := ndf hm; omega
      have hlt := df hlt
      have htk : n.take i.toNat = n := List.take_of_length_le (by omega)
      rw [htk] at hv
    · rw [if_neg (by simpa using he), if_neg (by simpa using hu), if_neg (by omega), if_neg (by rw [nt hv]; simp)]
    · rw [htk, if_neg (by simpa using he), if_neg (by simpa using hu), if_neg (by omega), if_pos (nf hv)]
end Go.Proofs.Ytighbmlnlmbbkaa
