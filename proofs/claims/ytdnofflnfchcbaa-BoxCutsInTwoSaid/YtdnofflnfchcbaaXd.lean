import Derived.Test.YtdnofflnfchcbaaXb
import Derived.Test.YtdnofflnfchcbaaXc
namespace Go.PL
open Go.AM
set_option linter.unusedVariables false

/-! ### By places, plain -/
theorem upto_iff {n : Nat} {p : Nat → Bool} : upto n p = true ↔ ∀ i, i < n → p i = true := by
  unfold upto
  rw [List.all_eq_true]
  exact ⟨fun h i hi => h i (List.mem_range.2 hi), fun h i hi => h i (List.mem_range.1 hi)⟩
theorem tab_zero (f : Nat → Int) : tab 0 f = [] := rfl
theorem tab_succ (n : Nat) (f : Nat → Int) : tab (n + 1) f = tab n f ++ [f n] := by
  unfold tab
  rw [List.range_succ, List.map_append]
  rfl
theorem tab_length (n : Nat) (f : Nat → Int) : (tab n f).length = n := by simp [tab]
theorem tab_getD {n i : Nat} (f : Nat → Int) (h : i < n) : (tab n f).getD i 0 = f i := by
  rw [List.getD_eq_getElem?_getD, List.getElem?_eq_getElem (by rw [tab_length]; exact h)]
  simp [tab]
theorem getD_out {v : List Int} {i : Nat} (h : v.length ≤ i) : v.getD i 0 = 0 := by
  rw [List.getD_eq_getElem?_getD, List.getElem?_eq_none h]
  rfl
theorem list_ext {a b : List Int} (hl : a.length = b.length) (h : ∀ i, i < a.length → a.getD i 0 = b.getD i 0) : a = b := by
  apply List.ext_getElem hl
  intro i h1 h2
  have := h i h1
  rw [List.getD_eq_getElem?_getD, List.getD_eq_getElem?_getD, List.getElem?_eq_getElem h1, List.getElem?_eq_getElem h2] at this
  exact this
theorem tab_self (v : List Int) : tab v.length (fun i => v.getD i 0) = v :=
  list_ext (tab_length _ _) fun i hi => by rw [tab_length] at hi; rw [tab_getD _ hi]
theorem tab_ext {n m : Nat} {f g : Nat → Int} (h : n = m) (hf : ∀ i, i < n → f i = g i) : tab n f = tab m g := by
  subst h
  unfold tab
  apply List.map_congr_left
  intro i hi
  exact hf i (List.mem_range.1 hi)
theorem sumK_zero (m : Int) (f : Nat → Int) : sumK m 0 f = 0 := rfl
theorem sumK_succ (m : Int) (n : Nat) (f : Nat → Int) : sumK m (n + 1) f = bstep m (sumK m n f) (f n) := by
  unfold sumK
  rw [List.range_succ, List.foldl_append]
  rfl
theorem sumK_ext {m : Int} {n : Nat} {f g : Nat → Int} (h : ∀ i, i < n → f i = g i) : sumK m n f = sumK m n g := by
  induction n with
  | zero => rfl
  | succ n ih => rw [sumK_succ, sumK_succ, ih fun i hi => h i (by omega), h n (by omega)]
theorem sq_le {d : Int} (h0 : 0 ≤ d) (h1 : d ≤ 8000) : 0 ≤ d * d ∧ d * d ≤ 64000000 :=
  ⟨Int.mul_nonneg h0 h0, by have := Int.mul_le_mul h1 h1 h0 (by omega); omega⟩
theorem sumK_bound (m : Int) (n : Nat) (f : Nat → Int) (h : ∀ i, i < n → 0 ≤ f i ∧ f i ≤ 8000) : 0 ≤ sumK m n f ∧ sumK m n f ≤ n * 64000000 := by
  induction n with
  | zero => simp [sumK_zero]
  | succ n ih =>
    rw [sumK_succ]
    have h1 := ih fun i hi => h i (by omega)
    have h2 := h n (by omega)
    have h3 := sq_le h2.1 h2.2
    unfold bstep
    split
    · omega
    · split <;> omega
theorem nt {b : Bool} (h : (!b) = true) : b = false := by simpa using h
theorem nf {b : Bool} (h : (!b) = false) : b = true := by simpa using h
theorem ndt {p : Prop} [Decidable p] (h : (!decide p) = true) : ¬ p := by simpa using h
theorem ndf {p : Prop} [Decidable p] (h : (!decide p) = false) : p := by simpa using h
theorem dt {p : Prop} [Decidable p] (h : decide p = true) : p := of_decide_eq_true h
theorem df {p : Prop} [Decidable p] (h : decide p = false) : ¬ p := of_decide_eq_false h
theorem is_no {b : Bool} (h : b = true → False) : false = b := by cases b <;> simp_all
theorem eq_no {b : Bool} (h : b = true → False) : b = false := by cases b <;> simp_all
theorem dec_is {p : Prop} [Decidable p] {b : Bool} (h : p ↔ b = true) : decide p = b := by
  by_cases hp : p
  · rw [decide_eq_true hp, h.1 hp]
  · rw [decide_eq_false hp]; exact is_no fun hb => hp (h.2 hb)
theorem bool_is {a b : Bool} (h : a = true ↔ b = true) : a = b := by cases a <;> cases b <;> simp_all
theorem upd_all {P : Nat → Prop} {x : Int} (h0 : 0 ≤ x) (h : ∀ j : Nat, (j : Int) < x → P j) (hx : P x.toNat) : ∀ j : Nat, (j : Int) < x + 1 → P j := fun j hj => by
  by_cases h' : (j : Int) < x
  · exact h j h'
  · rw [show j = x.toNat by omega]; exact hx
theorem succ_toNat {x : Int} (h : 0 ≤ x) : (x + 1).toNat = x.toNat + 1 := by omega
theorem end_toNat {x : Int} {n : Nat} (h1 : x ≤ n) (h : ¬ x < (n : Int)) : x.toNat = n := by omega
theorem i64s {n : Int} (h : -9000000000000000000 ≤ n) (h' : n ≤ 9000000000000000000) : isI64 n := by unfold isI64; omega
theorem i64_lt {x : Int} {n : Nat} (h0 : 0 ≤ x) (h : x < n) (hn : n ≤ 9223372036854775807) : isI64 (x + 1) := by unfold isI64; omega

theorem bco_iff {x : Int} : bco x = true ↔ -1000 ≤ x ∧ x ≤ 1000 := by simp [bco]
theorem bvec_iff {v : List Int} : bvec v = true ↔ (∀ i, i < v.length → -1000 ≤ v.getD i 0 ∧ v.getD i 0 ≤ 1000) ∧ 1 ≤ v.length ∧ v.length ≤ 32 := by
  unfold bvec at_
  simp only [Bool.and_eq_true, upto_iff, decide_eq_true_eq, bco_iff]
theorem bvec_at {v : List Int} (h : bvec v = true) (i : Nat) : -1000 ≤ v.getD i 0 ∧ v.getD i 0 ≤ 1000 := by
  rcases Nat.lt_or_ge i v.length with h' | h'
  · exact (bvec_iff.1 h).1 i h'
  · rw [getD_out h']; omega
theorem bvec_len {v : List Int} (h : bvec v = true) : 1 ≤ v.length ∧ v.length ≤ 32 := (bvec_iff.1 h).2
theorem bval_iff {b : Box} : bval b = true ↔ bvec b.1 = true ∧ bvec b.2.1 = true ∧ b.1.length = b.2.1.length ∧ ∀ i, i < b.1.length → b.1.getD i 0 ≤ b.2.1.getD i 0 := by
  unfold bval at_
  simp only [Bool.and_eq_true, upto_iff, decide_eq_true_eq]
theorem bval_at {b : Box} (h : bval b = true) (i : Nat) : -1000 ≤ b.1.getD i 0 ∧ b.1.getD i 0 ≤ b.2.1.getD i 0 ∧ b.2.1.getD i 0 ≤ 1000 := by
  obtain ⟨h1, h2, h3, h4⟩ := bval_iff.1 h
  refine ⟨(bvec_at h1 i).1, ?_, (bvec_at h2 i).2⟩
  rcases Nat.lt_or_ge i b.1.length with h' | h'
  · exact h4 i h'
  · rw [getD_out h', getD_out (by omega)]; omega
theorem bval_len {b : Box} (h : bval b = true) : 1 ≤ b.1.length ∧ b.1.length ≤ 32 ∧ b.2.1.length = b.1.length := by
  obtain ⟨h1, h2, h3, h4⟩ := bval_iff.1 h
  have := bvec_len h1
  omega
theorem balike_iff {a b : Box} : balike a b = true ↔ bval a = true ∧ bval b = true ∧ a.1.length = b.1.length := by
  unfold balike
  simp only [Bool.and_eq_true, decide_eq_true_eq]
theorem bhas_iff {b : Box} {v : List Int} : bhas b v = true ↔ bval b = true ∧ v.length = b.1.length ∧ ∀ i, i < v.length → b.1.getD i 0 ≤ v.getD i 0 ∧ v.getD i 0 ≤ b.2.1.getD i 0 := by
  unfold bhas at_
  simp only [Bool.and_eq_true, upto_iff, decide_eq_true_eq]
theorem binside_iff {a b : Box} : binside a b = true ↔ bval a = true ∧ bhas b a.1 = true ∧ bhas b a.2.1 = true := by
  unfold binside
  simp only [Bool.and_eq_true]
theorem isM_iff {m : Int} : isM m = true ↔ 1 ≤ m ∧ m ≤ 3 := by simp [isM]
theorem basked_iff {m : Int} {b : Box} {v : List Int} : basked m b v = true ↔ isM m = true ∧ bval b = true ∧ bvec v = true ∧ v.length = b.1.length := by
  unfold basked
  simp only [Bool.and_eq_true, decide_eq_true_eq]
theorem bvec_sm {v : List Int} (h : bvec v = true) : sm v :=
  ⟨by have := bvec_len h; omega, fun i => by have := bvec_at h i; unfold at_; omega⟩
theorem sm_at {v : List Int} (h : sm v) (i : Nat) : -4000 ≤ v.getD i 0 ∧ v.getD i 0 ≤ 4000 := h.2 i

/-- The first place. -/
theorem indexS_from (x : Int) : ∀ (v : List Int), (indexS x v = -1 ∧ ∀ i, i < v.length → v.getD i 0 ≠ x) ∨ (0 ≤ indexS x v ∧ indexS x v < v.length ∧ v.getD (indexS x v).toNat 0 = x ∧ ∀ j : Nat, (j : Int) < indexS x v → v.getD j 0 ≠ x)
  | [] => .inl ⟨rfl, fun i hi => by simp at hi⟩
  | y :: v => by
    unfold indexS
    by_cases h : x = y
    · rw [if_pos h]
      exact .inr ⟨by omega, by simp, by simpa using h.symm, fun j hj => by omega⟩
    · rw [if_neg h]
      rcases indexS_from x v with ⟨h1, h2⟩ | ⟨h1, h2, h3, h4⟩
      · rw [if_pos h1]
        refine .inl ⟨rfl, fun i hi => ?_⟩
        cases i with
        | zero => simpa using fun e => h e.symm
        | succ i => simpa using h2 i (by simpa using hi)
      · rw [if_neg (by omega)]
        refine .inr ⟨by omega, by simp; omega, ?_, fun j hj => ?_⟩
        · rw [show (indexS x v + 1).toNat = (indexS x v).toNat + 1 by omega]
          simpa using h3
        · cases j with
          | zero => simpa using fun e => h e.symm
          | succ j => simpa using h4 j (by omega)
theorem indexS_at {x : Int} {v : List Int} {i : Int} (h0 : 0 ≤ i) (h1 : i < v.length) (h2 : v.getD i.toNat 0 = x) (h3 : ∀ j : Nat, (j : Int) < i → v.getD j 0 ≠ x) : indexS x v = i := by
  rcases indexS_from x v with ⟨g1, g2⟩ | ⟨g1, g2, g3, g4⟩
  · exact absurd h2 (g2 _ (by omega))
  · rcases Int.lt_trichotomy (indexS x v) i with h | h | h
    · exact absurd g3 (h3 _ (by omega))
    · exact h
    · exact absurd h2 (g4 _ (by omega))
theorem indexS_none {x : Int} {v : List Int} (h : ∀ j : Nat, j < v.length → v.getD j 0 ≠ x) : indexS x v = -1 := by
  rcases indexS_from x v with ⟨g1, g2⟩ | ⟨g1, g2, g3, g4⟩
  · exact g1
  · exact absurd g3 (h _ (by omega))
/-- The greatest of the first ones. -/
def mxN (v : List Int) (n : Nat) : Int := (List.range n).foldl (fun s i => max s (at_ v i)) (at_ v 0)
theorem mxN_succ (v : List Int) (n : Nat) : mxN v (n + 1) = max (mxN v n) (v.getD n 0) := by
  unfold mxN
  rw [List.range_succ, List.foldl_append]
  rfl
theorem mxN_spec (v : List Int) : ∀ n, v.getD 0 0 ≤ mxN v n ∧ (∀ i, i < n → v.getD i 0 ≤ mxN v n) ∧ (mxN v n = v.getD 0 0 ∨ ∃ i, i < n ∧ mxN v n = v.getD i 0)
  | 0 => ⟨Int.le_refl _, fun i hi => by omega, .inl rfl⟩
  | n + 1 => by
    obtain ⟨h1, h2, h3⟩ := mxN_spec v n
    rw [mxN_succ]
    refine ⟨by omega, fun i hi => ?_, ?_⟩
    · rcases Nat.lt_or_ge i n with h | h
      · have := h2 i h; omega
      · rw [show i = n by omega]; omega
    · by_cases hc : v.getD n 0 ≤ mxN v n
      · rw [Int.max_eq_left hc]
        rcases h3 with h3 | ⟨i, hi, h3⟩
        · exact .inl h3
        · exact .inr ⟨i, by omega, h3⟩
      · rw [Int.max_eq_right (by omega)]
        exact .inr ⟨n, by omega, rfl⟩
theorem maxS_eq (v : List Int) : maxS v = mxN v v.length := rfl
end Go.PL
