import Derived.Test.YtgneefndofeoaaaWh
--@drop
namespace Go.PL
open Go.AM

theorem scan_err : ∀ (b : List Int) (k : Nat) (p z e : Int), scan k p z b = .err e → e = 10 ∨ e = 11
  | [], k, p, z, e, h => by
    have h : Dec.err (α := Int) 10 = .err e := h
    cases h; omega
  | c :: b, k, p, z, e, h => by
    unfold scan at h
    split at h
    · cases h; omega
    · split at h
      · cases h
      · exact scan_err b _ _ _ _ h
theorem decI_err {b : List Int} {e : Int} (h : decI b = .err e) : e = 10 ∨ e = 11 := by
  unfold decI at h
  split at h
  · rename_i e' h1; cases h; exact scan_err b _ _ _ _ h1
  · cases h

theorem decLen_err {k : Int} {b : List Int} {e : Int} (h : decLen k b = .err e) : e = 10 ∨ e = 11 := by
  unfold decLen at h
  split at h
  · rename_i e' h1; cases h; exact decI_err h1
  · split at h
    · cases h; omega
    · split at h
      · cases h; omega
      · cases h
theorem decLen_ok {k : Int} (hk : 1 ≤ k) {b : List Int} (hb : ∀ c ∈ b, 0 ≤ c ∧ c ≤ 255) {n u : Int} (h : decLen k b = .ok n u) : decI b = .ok n u ∧ 0 ≤ n ∧ 1 ≤ u ∧ u ≤ 10 ∧ u + n * k ≤ b.length := by
  unfold decLen at h
  split at h
  · cases h
  · rename_i m v h1
    obtain ⟨_, h2, h3, h4, _⟩ := enc_dec hb h1
    split at h
    · cases h
    · rename_i h5
      split at h
      · cases h
      · rename_i h6
        cases h
        refine ⟨h1, by omega, h2, h3, ?_⟩
        have h7 : n * k ≤ ((b.length : Int) - u) / k * k := Int.mul_le_mul_of_nonneg_right (by omega) (by omega)
        have h8 := Int.ediv_mul_le ((b.length : Int) - u) (show k ≠ 0 by omega)
        omega
theorem decBytes_err {b : List Int} {e : Int} (h : decBytes b = .err e) : e = 10 ∨ e = 11 := by
  unfold decBytes at h
  split at h
  · rename_i e' h1; cases h; exact decLen_err h1
  · cases h
theorem decBytes_ok {b : List Int} (hb : ∀ c ∈ b, 0 ≤ c ∧ c ≤ 255) {s : List Int} {u : Int} (h : decBytes b = .ok s u) : 1 ≤ u ∧ u ≤ b.length ∧ s.length ≤ b.length := by
  unfold decBytes at h
  split at h
  · cases h
  · rename_i n v h1
    obtain ⟨_, h2, h3, h4, h5⟩ := decLen_ok (by omega) hb h1
    cases h
    exact ⟨by omega, by omega, by simp; omega⟩

/-- So many have been read. -/
def getI {α : Type} (one : List Int → Dec α) (b : List Int) (r : Dec (List α)) (n : Int) (x : List α × Int × Int) : Prop :=
  0 ≤ x.2.2 ∧ x.2.2 ≤ n ∧ (x.1.length : Int) = x.2.2 ∧ 0 ≤ x.2.1 ∧ x.2.1 ≤ b.length ∧ r = (decMany one (n - x.2.2).toNat x.2.1 (b.drop x.2.1.toNat)).pre x.1
theorem pre_nil {α : Type} (d : Dec (List α)) : d.pre [] = d := by cases d <;> rfl
theorem getI_zero {α : Type} {one : List Int → Dec α} {b : List Int} {k n u : Int} (h : decLen k b = .ok n u) (hn : 0 ≤ n) (hu : 0 ≤ u) (hul : u ≤ b.length) :
    getI one b (decList k one b) n ([], u, 0) := by
  refine ⟨Int.le_refl _, hn, rfl, hu, hul, ?_⟩
  unfold decList
  rw [h, pre_nil]
  simp
theorem getI_err {α : Type} {one : List Int → Dec α} {b : List Int} {r : Dec (List α)} {n : Int} {x : List α × Int × Int} (h : getI one b r n x) (hc : x.2.2 < n) {e : Int}
    (he : one (b.drop x.2.1.toNat) = .err e) : r = .err e := by
  obtain ⟨h1, h2, h3, h4, h5, h6⟩ := h
  rw [h6, show (n - x.2.2).toNat = (n - x.2.2 - 1).toNat + 1 by omega]
  unfold decMany
  rw [he]
  rfl
theorem getI_step {α : Type} {one : List Int → Dec α} {b : List Int} {r : Dec (List α)} {n : Int} {x : List α × Int × Int} (h : getI one b r n x) (hc : x.2.2 < n) {y : α} {u : Int}
    (he : one (b.drop x.2.1.toNat) = .ok y u) (hu : 0 ≤ u) (hul : x.2.1 + u ≤ b.length) : getI one b r n (x.1 ++ [y], x.2.1 + u, x.2.2 + 1) := by
  obtain ⟨h1, h2, h3, h4, h5, h6⟩ := h
  refine ⟨by dsimp only; omega, by dsimp only; omega, by simp; omega, by dsimp only; omega, hul, ?_⟩
  rw [h6, show (n - x.2.2).toNat = (n - (x.2.2 + 1)).toNat + 1 by omega]
  have e : decMany one ((n - (x.2.2 + 1)).toNat + 1) x.2.1 (b.drop x.2.1.toNat) = match decMany one (n - (x.2.2 + 1)).toNat (x.2.1 + u) ((b.drop x.2.1.toNat).drop u.toNat) with
      | .err e => .err e
      | .ok xs a => .ok (y :: xs) a := by
    rw [decMany, he]; rfl
  rw [e, List.drop_drop, show x.2.1.toNat + u.toNat = (x.2.1 + u).toNat by omega]
  dsimp only
  cases decMany one (n - (x.2.2 + 1)).toNat (x.2.1 + u) (b.drop (x.2.1 + u).toNat) <;> simp [Dec.pre]
theorem getI_end {α : Type} {one : List Int → Dec α} {b : List Int} {r : Dec (List α)} {n : Int} {x : List α × Int × Int} (h : getI one b r n x) (hc : ¬ x.2.2 < n) : r = .ok x.1 x.2.1 := by
  obtain ⟨h1, h2, h3, h4, h5, h6⟩ := h
  rw [h6, show (n - x.2.2).toNat = 0 by omega]
  simp [decMany, Dec.pre]
theorem take_drop_all {α : Type} (b : List α) (k : Nat) : List.take (b.length - k) (List.drop k b) = List.drop k b := List.take_of_length_le (by simp)
theorem drop_byte {b : List Int} (hb : ∀ c ∈ b, 0 ≤ c ∧ c ≤ 255) (k : Nat) : ∀ c ∈ b.drop k, 0 ≤ c ∧ c ≤ 255 := fun c hc => hb c (List.mem_of_mem_drop hc)
end Go.PL
namespace Go.Proofs.Ytgneefndofeoaaa
open Go.AM Go.PL
set_option linter.unusedVariables false

theorem ssX1 : SpecSound X1 := mkctx_sound ⟨sat_getInt, sat_rGetInt, trivial⟩ trivial

theorem len_ok (b : List Int) (hb : ∀ c ∈ b, 0 ≤ c ∧ c ≤ 255) (hl : b.length ≤ 2 ^ 63 - 1) (k : Int) (hk : k = 1 ∨ k = 16) :
  (True ∧ ((!decide ((decO (decI b)).snd.snd = (0 : Int))) = true → ((0 : Int), (0 : Int), (decO (decI
  b)).snd.snd) = (decLen k b).triple (0 : Int)) ∧ ((!decide ((decO (decI b)).snd.snd = (0 : Int))) = false → (decide ((decO (decI b)).fst < (0 : Int)) = true → ((0 : Int), (0 :
  Int), (11 : Int)) = (decLen k b).triple (0 : Int)) ∧ (decide ((decO (decI b)).fst < (0 : Int)) = false → isI64 ((↑b.length : Int) - (decO (decI b)).snd.fst) ∧ (k ≠ (0 : Int) ∧
  isI64 (((↑b.length : Int) - (decO (decI b)).snd.fst).tdiv k)) ∧ (decide (((↑b.length : Int) - (decO (decI b)).snd.fst).tdiv k < (decO (decI b)).fst) = true → ((0 : Int), (0 :
  Int), (10 : Int)) = (decLen k b).triple (0 : Int)) ∧ (decide (((↑b.length : Int) - (decO (decI b)).snd.fst).tdiv k < (decO (decI b)).fst) = false → ((decO (decI b)).fst, (decO
  (decI b)).snd.fst, (0 : Int)) = (decLen k b).triple (0 : Int))))) := by
  refine ⟨trivial, ?_⟩
  unfold decLen
  cases h : decI b with
  | err e =>
    have := decI_err h
    refine ⟨fun _ => rfl, fun h' => ?_⟩
    have h' : (!decide (e = 0)) = false := h'
    simp at h'
    omega
  | ok n u =>
    obtain ⟨_, h2, h3, h4, _⟩ := enc_dec hb h
    refine ⟨fun h' => by simp [decO] at h', fun _ => ?_⟩
    dsimp only [decO]
    refine ⟨fun h5 => by rw [if_pos (of_decide_eq_true h5)]; rfl, fun h5 => ?_⟩
    have h5 : ¬ n < 0 := of_decide_eq_false h5
    rw [if_neg h5]
    have ed : ((b.length : Int) - u).tdiv k = ((b.length : Int) - u) / k := Int.tdiv_eq_ediv_of_nonneg (by omega)
    have h6 : 0 ≤ ((b.length : Int) - u) / k ∧ ((b.length : Int) - u) / k ≤ (b.length : Int) - u := by
      rcases hk with rfl | rfl <;> omega
    refine ⟨by unfold isI64; omega, ⟨by omega, by show isI64 (((b.length : Int) - u).tdiv k); rw [ed]; unfold isI64; omega⟩, fun h7 => ?_, fun h7 => ?_⟩
    · have h7 : ((b.length : Int) - u).tdiv k < n := of_decide_eq_true h7
      rw [ed] at h7
      rw [if_pos h7]; rfl
    · have h7 : ¬ ((b.length : Int) - u).tdiv k < n := of_decide_eq_false h7
      rw [ed] at h7
      rw [if_neg h7]; rfl

theorem sat_len : Sat Try.prog 42 lenSp :=
  fnwp_sat (C := X1) ssX1 5 42 lenSp fun (⟨b, k⟩ : List Int × Int) hk hp => Eq.mpr (len_nf b k) (len_ok b (fun c hc => has_byte (hk.1.2 c hc)) hk.1.1 k hp)
theorem sat_rLen : Sat Try.prog 44 lenSp :=
  fnwp_sat (C := X1) ssX1 5 44 lenSp fun (⟨b, k⟩ : List Int × Int) hk hp => Eq.mpr (rLen_nf b k) (len_ok b (fun c hc => has_byte (hk.1.2 c hc)) hk.1.1 k hp)
theorem ssX2 : SpecSound X2 := mkctx_sound ⟨sat_getInt, sat_rGetInt, sat_len, sat_rLen, trivial⟩ trivial

theorem sat_getBytes : Sat Try.prog 26 getBytesSp := by
  refine fnwp_sat (C := X2) ssX2 5 26 getBytesSp fun (b : List Int) hk _ => Eq.mpr (getBytes_nf b) ?_
  have hb : ∀ c ∈ b, 0 ≤ c ∧ c ≤ 255 := fun c hc => has_byte (hk.2 c hc)
  have hl : b.length ≤ 2 ^ 63 - 1 := hk.1
  refine ⟨by omega, ?_⟩
  unfold decBytes
  cases h : decLen 1 b with
  | err e =>
    have := decLen_err h
    refine ⟨fun _ => rfl, fun h' => ?_⟩
    have h' : (!decide (e = 0)) = false := h'
    simp at h'
    omega
  | ok n u =>
    obtain ⟨_, h2, h3, h4, h5⟩ := decLen_ok (by omega) hb h
    refine ⟨fun h' => by simp [Dec.triple] at h', fun _ => ?_⟩
    dsimp only [Dec.triple]
    rw [show (u + n).toNat - u.toNat = n.toNat by omega]
    exact ⟨by unfold isI64; omega, ⟨by omega, by omega, by omega⟩, by unfold isI64; omega, rfl⟩
theorem sat_rGetBytes : Sat Try.prog 27 getBytesSp := by
  refine fnwp_sat (C := X1) ssX1 5 27 getBytesSp fun (b : List Int) hk _ => Eq.mpr (rGetBytes_nf b) ?_
  have hb : ∀ c ∈ b, 0 ≤ c ∧ c ≤ 255 := fun c hc => has_byte (hk.2 c hc)
  have hl : b.length ≤ 2 ^ 63 - 1 := hk.1
  refine ⟨trivial, ?_⟩
  unfold decBytes decLen
  cases h : decI b with
  | err e =>
    have := decI_err h
    refine ⟨fun _ => rfl, fun h' => ?_⟩
    have h' : (!decide (e = 0)) = false := h'
    simp at h'
    omega
  | ok n u =>
    obtain ⟨_, h2, h3, h4, _⟩ := enc_dec hb h
    refine ⟨fun h' => by simp [decO] at h', fun _ => ?_⟩
    dsimp only [decO]
    refine ⟨fun h5 => by rw [if_pos (of_decide_eq_true h5)]; rfl, fun h5 => ?_⟩
    have h5 : ¬ n < 0 := of_decide_eq_false h5
    rw [if_neg h5, Int.ediv_one]
    refine ⟨by unfold isI64; omega, fun h7 => by rw [if_pos (of_decide_eq_true h7)]; rfl, fun h7 => ?_⟩
    have h7 : ¬ (b.length : Int) - u < n := of_decide_eq_false h7
    rw [if_neg h7, show (u + n).toNat - u.toNat = n.toNat by omega]
    exact ⟨by unfold isI64; omega, ⟨show 0 ≤ u by omega, show u ≤ u + n by omega, show u + n ≤ (b.length : Int) by omega⟩, by unfold isI64; omega, rfl⟩

theorem sixteen : ∀ (l : List Int), l.length = 16 → [l.getD 0 0, l.getD 1 0, l.getD 2 0, l.getD 3 0, l.getD 4 0, l.getD 5 0, l.getD 6 0, l.getD 7 0, l.getD 8 0, l.getD 9 0, l.getD 10 0,
    l.getD 11 0, l.getD 12 0, l.getD 13 0, l.getD 14 0, l.getD 15 0] = l
  | [a0, a1, a2, a3, a4, a5, a6, a7, a8, a9, a10, a11, a12, a13, a14, a15], _ => rfl
theorem sat_getDigest : Sat Try.prog 47 getDigestSp := by
  refine fnwp_sat (C := X1) ssX1 5 47 getDigestSp fun (b : List Int) hk hp => Eq.mpr (getDigest_nf b) ?_
  have hp : 16 ≤ b.length := hp
  rw [List.drop_zero, List.take_take, Nat.min_self, sixteen _ (by rw [List.length_take]; omega)]
  exact ⟨⟨by omega, by omega, by omega⟩, by rw [List.length_take]; omega, rfl⟩
theorem ssX3 : SpecSound X3 := mkctx_sound ⟨sat_getInt, sat_rGetInt, sat_len, sat_rLen,
  sat_getBytes,
  sat_rGetBytes,
  sat_getDigest,
  trivial⟩ trivial
end Go.Proofs.Ytgneefndofeoaaa
