import Derived.Test.YtdeleoaeegmhlaaMX1
--@drop
namespace Go.Proofs.Ytdeleoaeegmhlaa
open Go.AM Go.PL
set_option linter.unusedVariables false
theorem balike_nf (a b : Box) : fnwp B2 6 37 alikSp (a, b) = (True ∧ (bval a = true → True ∧ (bval b = true → decide ((↑a.fst.length : Int) = (↑b.fst.length : Int)) = balike a b) ∧
  (bval b = false → false = balike a b)) ∧ (bval a = false → false = balike a b)) := by kernel_rfl
theorem has_nf (b : Box) (v : List Int) : fnwp B2 6 12 bhasSp (b, v) = (True ∧ ((!bval b) = true → false = bhas b v) ∧ ((!bval b) = false → ((!decide ((↑v.length : Int) =
  (↑b.fst.length : Int))) = true → false = bhas b v) ∧ ((!decide ((↑v.length : Int) = (↑b.fst.length : Int))) = false → ∃ (I : Int → Prop), ∃ (μ : Int → Nat), I (0 : Int) ∧ ∀ (x :
  Int), I x → (decide (x < (↑v.length : Int)) = true → ((0 : Int) ≤ x ∧ x < (↑v.length : Int)) ∧ ((0 : Int) ≤ x ∧ x < (↑b.fst.length : Int)) ∧ (decide (v.getD x.toNat (0 : Int) <
  b.fst.getD x.toNat (0 : Int)) = true → false = bhas b v) ∧ (decide (v.getD x.toNat (0 : Int) < b.fst.getD x.toNat (0 : Int)) = false → ((0 : Int) ≤ x ∧ x < (↑b.snd.fst.length :
  Int)) ∧ (decide (b.snd.fst.getD x.toNat (0 : Int) < v.getD x.toNat (0 : Int)) = true → false = bhas b v) ∧ (decide (b.snd.fst.getD x.toNat (0 : Int) < v.getD x.toNat (0 : Int)) =
  false → isI64 (x + (1 : Int)) ∧ I (x + (1 : Int)) ∧ μ (x + (1 : Int)) < μ x))) ∧ (decide (x < (↑v.length : Int)) = false → true = bhas b v)))) := by kernel_rfl
theorem near_nf (m : Int) (b : Box) (v : List Int) : fnwp B3 7 52 nearSp (m, b, v) = (True ∧ ((!bval b) = true → ((0 : Int), (1 : Int)) = nearS m b v) ∧ ((!bval b) = false → True ∧
  ((!bvec v) = true → ((0 : Int), (1 : Int)) = nearS m b v) ∧ ((!bvec v) = false → ((!decide ((↑v.length : Int) = (↑b.fst.length : Int))) = true → ((0 : Int), (1 : Int)) = nearS m
  b v) ∧ ((!decide ((↑v.length : Int) = (↑b.fst.length : Int))) = false → (decide (m = (1 : Int)) = true → ∃ (I : Int × Int → Prop), ∃ (μ : Int × Int → Nat), I ((0 : Int), (0 :
  Int)) ∧ ∀ (x : Int × Int), I x → (decide (x.fst < (↑v.length : Int)) = true → ((0 : Int) ≤ x.fst ∧ x.fst < (↑v.length : Int)) ∧ ((0 : Int) ≤ x.fst ∧ x.fst < (↑b.fst.length :
  Int)) ∧ ((0 : Int) ≤ x.fst ∧ x.fst < (↑b.snd.fst.length : Int)) ∧ (isI64 (b.fst.getD x.fst.toNat (0 : Int) - v.getD x.fst.toNat (0 : Int)) ∧ isI64 (v.getD x.fst.toNat (0 : Int) -
  b.snd.fst.getD x.fst.toNat (0 : Int))) ∧ isI64 (x.snd + max (0 : Int) (max (b.fst.getD x.fst.toNat (0 : Int) - v.getD x.fst.toNat (0 : Int)) (v.getD x.fst.toNat (0 : Int) -
  b.snd.fst.getD x.fst.toNat (0 : Int)))) ∧ isI64 (x.fst + (1 : Int)) ∧ I (x.fst + (1 : Int), x.snd + max (0 : Int) (max (b.fst.getD x.fst.toNat (0 : Int) - v.getD x.fst.toNat (0 :
  Int)) (v.getD x.fst.toNat (0 : Int) - b.snd.fst.getD x.fst.toNat (0 : Int)))) ∧ μ (x.fst + (1 : Int), x.snd + max (0 : Int) (max (b.fst.getD x.fst.toNat (0 : Int) - v.getD
  x.fst.toNat (0 : Int)) (v.getD x.fst.toNat (0 : Int) - b.snd.fst.getD x.fst.toNat (0 : Int)))) < μ x) ∧ (decide (x.fst < (↑v.length : Int)) = false → (x.snd, (0 : Int)) = nearS m
  b v)) ∧ (decide (m = (1 : Int)) = false → (decide (m = (2 : Int)) = true → ∃ (I : Int × Int → Prop), ∃ (μ : Int × Int → Nat), I ((0 : Int), (0 : Int)) ∧ ∀ (x : Int × Int), I x →
  (decide (x.fst < (↑v.length : Int)) = true → ((0 : Int) ≤ x.fst ∧ x.fst < (↑v.length : Int)) ∧ ((0 : Int) ≤ x.fst ∧ x.fst < (↑b.fst.length : Int)) ∧ ((0 : Int) ≤ x.fst ∧ x.fst <
  (↑b.snd.fst.length : Int)) ∧ (isI64 (b.fst.getD x.fst.toNat (0 : Int) - v.getD x.fst.toNat (0 : Int)) ∧ isI64 (v.getD x.fst.toNat (0 : Int) - b.snd.fst.getD x.fst.toNat (0 :
  Int))) ∧ isI64 (max (0 : Int) (max (b.fst.getD x.fst.toNat (0 : Int) - v.getD x.fst.toNat (0 : Int)) (v.getD x.fst.toNat (0 : Int) - b.snd.fst.getD x.fst.toNat (0 : Int))) * max
  (0 : Int) (max (b.fst.getD x.fst.toNat (0 : Int) - v.getD x.fst.toNat (0 : Int)) (v.getD x.fst.toNat (0 : Int) - b.snd.fst.getD x.fst.toNat (0 : Int)))) ∧ isI64 (x.snd + max (0 :
  Int) (max (b.fst.getD x.fst.toNat (0 : Int) - v.getD x.fst.toNat (0 : Int)) (v.getD x.fst.toNat (0 : Int) - b.snd.fst.getD x.fst.toNat (0 : Int))) * max (0 : Int) (max
  (b.fst.getD x.fst.toNat (0 : Int) - v.getD x.fst.toNat (0 : Int)) (v.getD x.fst.toNat (0 : Int) - b.snd.fst.getD x.fst.toNat (0 : Int)))) ∧ isI64 (x.fst + (1 : Int)) ∧ I (x.fst +
  (1 : Int), x.snd + max (0 : Int) (max (b.fst.getD x.fst.toNat (0 : Int) - v.getD x.fst.toNat (0 : Int)) (v.getD x.fst.toNat (0 : Int) - b.snd.fst.getD x.fst.toNat (0 : Int))) *
  max (0 : Int) (max (b.fst.getD x.fst.toNat (0 : Int) - v.getD x.fst.toNat (0 : Int)) (v.getD x.fst.toNat (0 : Int) - b.snd.fst.getD x.fst.toNat (0 : Int)))) ∧ μ (x.fst + (1 :
  Int), x.snd + max (0 : Int) (max (b.fst.getD x.fst.toNat (0 : Int) - v.getD x.fst.toNat (0 : Int)) (v.getD x.fst.toNat (0 : Int) - b.snd.fst.getD x.fst.toNat (0 : Int))) * max (0
  : Int) (max (b.fst.getD x.fst.toNat (0 : Int) - v.getD x.fst.toNat (0 : Int)) (v.getD x.fst.toNat (0 : Int) - b.snd.fst.getD x.fst.toNat (0 : Int)))) < μ x) ∧ (decide (x.fst <
  (↑v.length : Int)) = false → (x.snd, (0 : Int)) = nearS m b v)) ∧ (decide (m = (2 : Int)) = false → (decide (m = (3 : Int)) = true → ∃ (I : Int × Int → Prop), ∃ (μ : Int × Int →
  Nat), I ((0 : Int), (0 : Int)) ∧ ∀ (x : Int × Int), I x → (decide (x.fst < (↑v.length : Int)) = true → ((0 : Int) ≤ x.fst ∧ x.fst < (↑v.length : Int)) ∧ ((0 : Int) ≤ x.fst ∧
  x.fst < (↑b.fst.length : Int)) ∧ ((0 : Int) ≤ x.fst ∧ x.fst < (↑b.snd.fst.length : Int)) ∧ (isI64 (b.fst.getD x.fst.toNat (0 : Int) - v.getD x.fst.toNat (0 : Int)) ∧ isI64
  (v.getD x.fst.toNat (0 : Int) - b.snd.fst.getD x.fst.toNat (0 : Int))) ∧ isI64 (x.fst + (1 : Int)) ∧ I (x.fst + (1 : Int), max x.snd (max (0 : Int) (max (b.fst.getD x.fst.toNat
  (0 : Int) - v.getD x.fst.toNat (0 : Int)) (v.getD x.fst.toNat (0 : Int) - b.snd.fst.getD x.fst.toNat (0 : Int))))) ∧ μ (x.fst + (1 : Int), max x.snd (max (0 : Int) (max
  (b.fst.getD x.fst.toNat (0 : Int) - v.getD x.fst.toNat (0 : Int)) (v.getD x.fst.toNat (0 : Int) - b.snd.fst.getD x.fst.toNat (0 : Int))))) < μ x) ∧ (decide (x.fst < (↑v.length :
  Int)) = false → (x.snd, (0 : Int)) = nearS m b v)) ∧ (decide (m = (3 : Int)) = false → ((0 : Int), (1 : Int)) = nearS m b v))))))) := by kernel_rfl
theorem meet_nf (a b : Box) : fnwp B3 6 14 meetSp (a, b) = (True ∧ ((!balike a b) = true → (([], [], ()), false, (1 : Int)) = meetS a b) ∧ ((!balike a b) = false → (sm a.fst ∧ sm
  b.fst ∧ a.fst.length ≤ b.fst.length ∧ ((39 : Nat) = (40 : Nat) ∨ (39 : Nat) = (39 : Nat))) ∧ (sm a.snd.fst ∧ sm b.snd.fst ∧ a.snd.fst.length ≤ b.snd.fst.length ∧ ((40 : Nat) =
  (40 : Nat) ∨ (40 : Nat) = (39 : Nat))) ∧ True ∧ ((!bval (zipS a.fst b.fst (39 : Nat), zipS a.snd.fst b.snd.fst (40 : Nat), ())) = true → (([], [], ()), false, (0 : Int)) = meetS
  a b) ∧ ((!bval (zipS a.fst b.fst (39 : Nat), zipS a.snd.fst b.snd.fst (40 : Nat), ())) = false → ((zipS a.fst b.fst (39 : Nat), zipS a.snd.fst b.snd.fst (40 : Nat), ()), true, (0
  : Int)) = meetS a b))) := by kernel_rfl
theorem sameB_nf (a b : Box) : fnwp B3 6 18 sameBSp (a, b) = (True ∧ (decide (a.fst = b.fst) = true → True ∧ decide (a.snd.fst = b.snd.fst) = decide (a = b)) ∧ (decide (a.fst =
  b.fst) = false → false = decide (a = b))) := by kernel_rfl
end Go.Proofs.Ytdeleoaeegmhlaa
--@drop
namespace Go.PL
open Go.AM
set_option linter.unusedVariables false

/-! ### By places, plain -/
theorem sumK_zero (m : Int) (f : Nat → Int) : sumK m 0 f = 0 := rfl
theorem sumK_succ (m : Int) (n : Nat) (f : Nat → Int) : sumK m (n + 1) f = bstep m (sumK m n f) (f n) := by
  unfold sumK
  rw [List.range_succ, List.foldl_append]
  rfl
theorem sumK_ext {m : Int} {n : Nat} {f g : Nat → Int} (h : ∀ i, i < n → f i = g i) : sumK m n f = sumK m n g := by
  induction n with
  | zero => rfl
  | succ n ih => rw [sumK_succ, sumK_succ, ih fun i hi => h i (by omega), h n (by omega)]
theorem sq_le {d : Int} (h0 : 0 ≤ d) (h1 : d ≤ 8000) : 0 ≤ d * d ∧ d * d ≤ 64000000 :=
  ⟨Int.mul_nonneg h0 h0, by have := Int.mul_le_mul h1 h1 h0 (by omega); omega⟩
theorem sumK_bound (m : Int) (n : Nat) (f : Nat → Int) (h : ∀ i, i < n → 0 ≤ f i ∧ f i ≤ 8000) : 0 ≤ sumK m n f ∧ sumK m n f ≤ n * 64000000 := by
  induction n with
  | zero => simp [sumK_zero]
  | succ n ih =>
    rw [sumK_succ]
    have h1 := ih fun i hi => h i (by omega)
    have h2 := h n (by omega)
    have h3 := sq_le h2.1 h2.2
    unfold bstep
    split
    · omega
    · split <;> omega
theorem bco_iff {x : Int} : bco x = true ↔ -1000 ≤ x ∧ x ≤ 1000 := by simp [bco]
theorem bvec_iff {v : List Int} : bvec v = true ↔ (∀ i, i < v.length → -1000 ≤ v.getD i 0 ∧ v.getD i 0 ≤ 1000) ∧ 1 ≤ v.length ∧ v.length ≤ 32 := by
  unfold bvec at_
  simp only [Bool.and_eq_true, upto_iff, decide_eq_true_eq, bco_iff]
theorem bvec_at {v : List Int} (h : bvec v = true) (i : Nat) : -1000 ≤ v.getD i 0 ∧ v.getD i 0 ≤ 1000 := by
  rcases Nat.lt_or_ge i v.length with h' | h'
  · exact (bvec_iff.1 h).1 i h'
  · rw [getD_out h']; omega
theorem bvec_len {v : List Int} (h : bvec v = true) : 1 ≤ v.length ∧ v.length ≤ 32 := (bvec_iff.1 h).2
theorem bval_iff {b : Box} : bval b = true ↔ bvec b.1 = true ∧ bvec b.2.1 = true ∧ b.1.length = b.2.1.length ∧ ∀ i, i < b.1.length → b.1.getD i 0 ≤ b.2.1.getD i 0 := by
  unfold bval at_
  simp only [Bool.and_eq_true, upto_iff, decide_eq_true_eq]
theorem bval_at {b : Box} (h : bval b = true) (i : Nat) : -1000 ≤ b.1.getD i 0 ∧ b.1.getD i 0 ≤ b.2.1.getD i 0 ∧ b.2.1.getD i 0 ≤ 1000 := by
  obtain ⟨h1, h2, h3, h4⟩ := bval_iff.1 h
  refine ⟨(bvec_at h1 i).1, ?_, (bvec_at h2 i).2⟩
  rcases Nat.lt_or_ge i b.1.length with h' | h'
  · exact h4 i h'
  · rw [getD_out h', getD_out (by omega)]; omega
theorem bval_len {b : Box} (h : bval b = true) : 1 ≤ b.1.length ∧ b.1.length ≤ 32 ∧ b.2.1.length = b.1.length := by
  obtain ⟨h1, h2, h3, h4⟩ := bval_iff.1 h
  have := bvec_len h1
  omega
theorem balike_iff {a b : Box} : balike a b = true ↔ bval a = true ∧ bval b = true ∧ a.1.length = b.1.length := by
  unfold balike
  simp only [Bool.and_eq_true, decide_eq_true_eq]
theorem bhas_iff {b : Box} {v : List Int} : bhas b v = true ↔ bval b = true ∧ v.length = b.1.length ∧ ∀ i, i < v.length → b.1.getD i 0 ≤ v.getD i 0 ∧ v.getD i 0 ≤ b.2.1.getD i 0 := by
  unfold bhas at_
  simp only [Bool.and_eq_true, upto_iff, decide_eq_true_eq]
theorem binside_iff {a b : Box} : binside a b = true ↔ bval a = true ∧ bhas b a.1 = true ∧ bhas b a.2.1 = true := by
  unfold binside
  simp only [Bool.and_eq_true]
theorem isM_iff {m : Int} : isM m = true ↔ 1 ≤ m ∧ m ≤ 3 := by simp [isM]
theorem basked_iff {m : Int} {b : Box} {v : List Int} : basked m b v = true ↔ isM m = true ∧ bval b = true ∧ bvec v = true ∧ v.length = b.1.length := by
  unfold basked
  simp only [Bool.and_eq_true, decide_eq_true_eq]
theorem bvec_sm {v : List Int} (h : bvec v = true) : sm v :=
  ⟨by have := bvec_len h; omega, fun i => by have := bvec_at h i; unfold at_; omega⟩
theorem sm_at {v : List Int} (h : sm v) (i : Nat) : -4000 ≤ v.getD i 0 ∧ v.getD i 0 ≤ 4000 := h.2 i

/-- The first place. -/
theorem indexS_from (x : Int) : ∀ (v : List Int), (indexS x v = -1 ∧ ∀ i, i < v.length → v.getD i 0 ≠ x) ∨ (0 ≤ indexS x v ∧ indexS x v < v.length ∧ v.getD (indexS x v).toNat 0 = x ∧ ∀ j : Nat, (j : Int) < indexS x v → v.getD j 0 ≠ x)
  | [] => .inl ⟨rfl, fun i hi => by simp at hi⟩
  | y :: v => by
    unfold indexS
    by_cases h : x = y
    · rw [if_pos h]
      exact .inr ⟨by omega, by simp, by simpa using h.symm, fun j hj => by omega⟩
    · rw [if_neg h]
      rcases indexS_from x v with ⟨h1, h2⟩ | ⟨h1, h2, h3, h4⟩
      · rw [if_pos h1]
        refine .inl ⟨rfl, fun i hi => ?_⟩
        cases i with
        | zero => simpa using fun e => h e.symm
        | succ i => simpa using h2 i (by simpa using hi)
      · rw [if_neg (by omega)]
        refine .inr ⟨by omega, by simp; omega, ?_, fun j hj => ?_⟩
        · rw [show (indexS x v + 1).toNat = (indexS x v).toNat + 1 by omega]
          simpa using h3
        · cases j with
          | zero => simpa using fun e => h e.symm
          | succ j => simpa using h4 j (by omega)
theorem indexS_at {x : Int} {v : List Int} {i : Int} (h0 : 0 ≤ i) (h1 : i < v.length) (h2 : v.getD i.toNat 0 = x) (h3 : ∀ j : Nat, (j : Int) < i → v.getD j 0 ≠ x) : indexS x v = i := by
  rcases indexS_from x v with ⟨g1, g2⟩ | ⟨g1, g2, g3, g4⟩
  · exact absurd h2 (g2 _ (by omega))
  · rcases Int.lt_trichotomy (indexS x v) i with h | h | h
    · exact absurd g3 (h3 _ (by omega))
    · exact h
    · exact absurd h2 (g4 _ (by omega))
theorem indexS_none {x : Int} {v : List Int} (h : ∀ j : Nat, j < v.length → v.getD j 0 ≠ x) : indexS x v = -1 := by
  rcases indexS_from x v with ⟨g1, g2⟩ | ⟨g1, g2, g3, g4⟩
  · exact g1
  · exact absurd g3 (h _ (by omega))
/-- The greatest of the first ones. -/
def mxN (v : List Int) (n : Nat) : Int := (List.range n).foldl (fun s i => max s (at_ v i)) (at_ v 0)
theorem mxN_succ (v : List Int) (n : Nat) : mxN v (n + 1) = max (mxN v n) (v.getD n 0) := by
  unfold mxN
  rw [List.range_succ, List.foldl_append]
  rfl
theorem mxN_spec (v : List Int) : ∀ n, v.getD 0 0 ≤ mxN v n ∧ (∀ i, i < n → v.getD i 0 ≤ mxN v n) ∧ (mxN v n = v.getD 0 0 ∨ ∃ i, i < n ∧ mxN v n = v.getD i 0)
  | 0 => ⟨Int.le_refl _, fun i hi => by omega, .inl rfl⟩
  | n + 1 => by
    obtain ⟨h1, h2, h3⟩ := mxN_spec v n
    rw [mxN_succ]
    refine ⟨by omega, fun i hi => ?_, ?_⟩
    · rcases Nat.lt_or_ge i n with h | h
      · have := h2 i h; omega
      · rw [show i = n by omega]; omega
    · by_cases hc : v.getD n 0 ≤ mxN v n
      · rw [Int.max_eq_left hc]
        rcases h3 with h3 | ⟨i, hi, h3⟩
        · exact .inl h3
        · exact .inr ⟨i, by omega, h3⟩
      · rw [Int.max_eq_right (by omega)]
        exact .inr ⟨n, by omega, rfl⟩
theorem maxS_eq (v : List Int) : maxS v = mxN v v.length := rfl
end Go.PL
