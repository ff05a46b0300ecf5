import Derived.Test.YtdeleoaeegmhlaaMBs
namespace Go.PL
open Go.AM
set_option linter.unusedVariables false

/-! ### By places -/
def upto (n : Nat) (p : Nat → Bool) : Bool := (List.range n).all p
def tab (n : Nat) (f : Nat → Int) : List Int := (List.range n).map f
def tabL {α : Type} (n : Nat) (f : Nat → α) : List α := (List.range n).map f
theorem upto_iff {n : Nat} {p : Nat → Bool} : upto n p = true ↔ ∀ i, i < n → p i = true := by
  unfold upto
  rw [List.all_eq_true]
  exact ⟨fun h i hi => h i (List.mem_range.2 hi), fun h i hi => h i (List.mem_range.1 hi)⟩
theorem tab_zero (f : Nat → Int) : tab 0 f = [] := rfl
theorem tab_succ (n : Nat) (f : Nat → Int) : tab (n + 1) f = tab n f ++ [f n] := by
  unfold tab
  rw [List.range_succ, List.map_append]
  rfl
theorem tab_length (n : Nat) (f : Nat → Int) : (tab n f).length = n := by simp [tab]
theorem tab_getD {n i : Nat} (f : Nat → Int) (h : i < n) : (tab n f).getD i 0 = f i := by
  rw [List.getD_eq_getElem?_getD, List.getElem?_eq_getElem (by rw [tab_length]; exact h)]
  simp [tab]
theorem getD_out {v : List Int} {i : Nat} (h : v.length ≤ i) : v.getD i 0 = 0 := by
  rw [List.getD_eq_getElem?_getD, List.getElem?_eq_none h]
  rfl
theorem list_ext {a b : List Int} (hl : a.length = b.length) (h : ∀ i, i < a.length → a.getD i 0 = b.getD i 0) : a = b := by
  apply List.ext_getElem hl
  intro i h1 h2
  have := h i h1
  rw [List.getD_eq_getElem?_getD, List.getD_eq_getElem?_getD, List.getElem?_eq_getElem h1, List.getElem?_eq_getElem h2] at this
  exact this
theorem tab_self (v : List Int) : tab v.length (fun i => v.getD i 0) = v :=
  list_ext (tab_length _ _) fun i hi => by rw [tab_length] at hi; rw [tab_getD _ hi]
theorem tab_ext {n m : Nat} {f g : Nat → Int} (h : n = m) (hf : ∀ i, i < n → f i = g i) : tab n f = tab m g := by
  subst h
  unfold tab
  apply List.map_congr_left
  intro i hi
  exact hf i (List.mem_range.1 hi)
theorem nt {b : Bool} (h : (!b) = true) : b = false := by simpa using h
theorem nf {b : Bool} (h : (!b) = false) : b = true := by simpa using h
theorem ndt {p : Prop} [Decidable p] (h : (!decide p) = true) : ¬ p := by simpa using h
theorem ndf {p : Prop} [Decidable p] (h : (!decide p) = false) : p := by simpa using h
theorem dt {p : Prop} [Decidable p] (h : decide p = true) : p := of_decide_eq_true h
theorem df {p : Prop} [Decidable p] (h : decide p = false) : ¬ p := of_decide_eq_false h
theorem is_no {b : Bool} (h : b = true → False) : false = b := by cases b <;> simp_all
theorem eq_no {b : Bool} (h : b = true → False) : b = false := by cases b <;> simp_all
theorem dec_is {p : Prop} [Decidable p] {b : Bool} (h : p ↔ b = true) : decide p = b := by
  by_cases hp : p
  · rw [decide_eq_true hp, h.1 hp]
  · rw [decide_eq_false hp]; exact is_no fun hb => hp (h.2 hb)
theorem bool_is {a b : Bool} (h : a = true ↔ b = true) : a = b := by cases a <;> cases b <;> simp_all
theorem upd_all {P : Nat → Prop} {x : Int} (h0 : 0 ≤ x) (h : ∀ j : Nat, (j : Int) < x → P j) (hx : P x.toNat) : ∀ j : Nat, (j : Int) < x + 1 → P j := fun j hj => by
  by_cases h' : (j : Int) < x
  · exact h j h'
  · rw [show j = x.toNat by omega]; exact hx
theorem succ_toNat {x : Int} (h : 0 ≤ x) : (x + 1).toNat = x.toNat + 1 := by omega
theorem end_toNat {x : Int} {n : Nat} (h1 : x ≤ n) (h : ¬ x < (n : Int)) : x.toNat = n := by omega
theorem i64s {n : Int} (h : -9000000000000000000 ≤ n) (h' : n ≤ 9000000000000000000) : isI64 n := by unfold isI64; omega
theorem i64_lt {x : Int} {n : Nat} (h0 : 0 ≤ x) (h : x < n) (hn : n ≤ 9223372036854775807) : isI64 (x + 1) := by unfold isI64; omega

theorem tabL_succ {α : Type} (n : Nat) (f : Nat → α) : tabL (n + 1) f = tabL n f ++ [f n] := by
  unfold tabL
  rw [List.range_succ, List.map_append]
  rfl
theorem tabL_length {α : Type} (n : Nat) (f : Nat → α) : (tabL n f).length = n := by simp [tabL]
theorem tabL_getD {α : Type} {n i : Nat} (f : Nat → α) (d : α) (h : i < n) : (tabL n f).getD i d = f i := by
  rw [List.getD_eq_getElem?_getD, List.getElem?_eq_getElem (by rw [tabL_length]; exact h)]
  simp [tabL]
theorem tabL_ext {α : Type} {n m : Nat} {f g : Nat → α} (h : n = m) (hf : ∀ i, i < n → f i = g i) : tabL n f = tabL m g := by
  subst h
  unfold tabL
  apply List.map_congr_left
  intro i hi
  exact hf i (List.mem_range.1 hi)
theorem listL_ext {α : Type} {a b : List α} (d : α) (hl : a.length = b.length) (h : ∀ i, i < a.length → a.getD i d = b.getD i d) : a = b := by
  apply List.ext_getElem hl
  intro i h1 h2
  have := h i h1
  rw [List.getD_eq_getElem?_getD, List.getD_eq_getElem?_getD, List.getElem?_eq_getElem h1, List.getElem?_eq_getElem h2] at this
  exact this
theorem tabL_self {α : Type} (v : List α) (d : α) : tabL v.length (fun i => v.getD i d) = v :=
  listL_ext d (tabL_length _ _) fun i hi => by rw [tabL_length] at hi; rw [tabL_getD _ _ hi]
theorem getD_outL {α : Type} {v : List α} {d : α} {i : Nat} (h : v.length ≤ i) : v.getD i d = d := by
  rw [List.getD_eq_getElem?_getD, List.getElem?_eq_none h]
  rfl
/-- The first place with the greatest number. -/
def amax (n : Nat) (w : Nat → Int) : Nat := (List.range n).foldl (fun k i => if w k < w i then i else k) 0
theorem amax_succ (n : Nat) (w : Nat → Int) : amax (n + 1) w = if w (amax n w) < w n then n else amax n w := by
  unfold amax
  rw [List.range_succ, List.foldl_append]
  rfl
theorem amax_spec (w : Nat → Int) : ∀ n, 1 ≤ n → amax n w < n ∧ (∀ i, i < n → w i ≤ w (amax n w)) ∧ ∀ i, i < amax n w → w i < w (amax n w)
  | 0, h => by omega
  | 1, _ => by
    have e : amax 1 w = 0 := by rw [amax_succ]; show (if w 0 < w 0 then 0 else 0) = 0; simp
    rw [e]
    exact ⟨by omega, fun i hi => by rw [show i = 0 by omega]; omega, fun i hi => by omega⟩
  | n + 2, _ => by
    obtain ⟨h1, h2, h3⟩ := amax_spec w (n + 1) (by omega)
    rw [amax_succ]
    split
    · rename_i h
      refine ⟨by omega, fun i hi => ?_, fun i hi => ?_⟩
      · rcases Nat.lt_or_ge i (n + 1) with h' | h'
        · have := h2 i h'; omega
        · rw [show i = n + 1 by omega]; omega
      · have := h2 i hi; omega
    · rename_i h
      refine ⟨by omega, fun i hi => ?_, h3⟩
      rcases Nat.lt_or_ge i (n + 1) with h' | h'
      · exact h2 i h'
      · rw [show i = n + 1 by omega]; omega
theorem amax_le (w : Nat → Int) : ∀ n, amax n w ≤ n
  | 0 => Nat.le_refl _
  | n + 1 => by have := (amax_spec w (n + 1) (by omega)).1; omega
end Go.PL
