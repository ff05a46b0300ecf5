import Derived.Test.YtdnofflnfchcbaaXe
namespace Go.PL
open Go.AM
set_option linter.unusedVariables false

theorem nearS_no {m : Int} {b : Box} {v : List Int} (h : basked m b v = true → False) : ((0 : Int), (1 : Int)) = nearS m b v := by
  unfold nearS; rw [if_neg h]
theorem nearS_yes {m : Int} {b : Box} {v : List Int} (h : basked m b v = true) : nearS m b v = (sumK m v.length (nearF b v), 0) := by
  unfold nearS; rw [if_pos h]
theorem farS_no {m : Int} {b : Box} {v : List Int} (h : basked m b v = true → False) : ((0 : Int), (1 : Int)) = farS m b v := by
  unfold farS; rw [if_neg h]
theorem farS_yes {m : Int} {b : Box} {v : List Int} (h : basked m b v = true) : farS m b v = (sumK m v.length (farF b v), 0) := by
  unfold farS; rw [if_pos h]
theorem apartS_no {m : Int} {a b : Box} (h : (isM m = true ∧ balike a b = true) → False) : ((0 : Int), (1 : Int)) = apartS m a b := by
  unfold apartS; rw [if_neg (by simpa using h)]
theorem apartS_yes {m : Int} {a b : Box} (h : isM m = true) (h' : balike a b = true) : apartS m a b = (sumK m a.1.length (apartF a b), 0) := by
  unfold apartS; rw [if_pos (by rw [h, h']; rfl)]
theorem near_le {b : Box} {v : List Int} (hb : bval b = true) (hv : bvec v = true) (j : Nat) : 0 ≤ nearF b v j ∧ nearF b v j ≤ 8000 := by
  have := bval_at hb j
  have := bvec_at hv j
  unfold nearF at_
  omega
theorem far_le {b : Box} {v : List Int} (hb : bval b = true) (hv : bvec v = true) (j : Nat) : 0 ≤ farF b v j ∧ farF b v j ≤ 8000 := by
  have := bval_at hb j
  have := bvec_at hv j
  unfold farF at_
  omega
theorem apart_le {a b : Box} (ha : bval a = true) (hb : bval b = true) (j : Nat) : 0 ≤ apartF a b j ∧ apartF a b j ≤ 8000 := by
  have := bval_at ha j
  have := bval_at hb j
  unfold apartF at_
  omega
theorem keyI_step {m : Int} {n : Nat} {f : Nat → Int} {s i d : Int} (hf : ∀ j, 0 ≤ f j ∧ f j ≤ 8000) (hn : n ≤ 64) (h0 : 0 ≤ i) (h1 : i ≤ n) (h2 : s = sumK m i.toNat f) (c : i < n) (hd : d = f i.toNat) :
    (m = 1 → isI64 (s + d) ∧ s + d = sumK m (i + 1).toNat f) ∧ (m = 2 → isI64 (d * d) ∧ isI64 (s + d * d) ∧ s + d * d = sumK m (i + 1).toNat f) ∧ (m = 3 → max s d = sumK m (i + 1).toNat f) ∧ isI64 (i + 1) := by
  have hs := sumK_succ m i.toNat f
  have hb := sumK_bound m i.toNat f fun j _ => hf j
  have hfi := hf i.toNat
  rw [← succ_toNat h0, ← h2, ← hd] at hs
  rw [← h2] at hb
  rw [← hd] at hfi
  have hq := sq_le hfi.1 hfi.2
  refine ⟨fun e => ?_, fun e => ?_, fun e => ?_, i64s (by omega) (by omega)⟩
  · subst e; exact ⟨i64s (by omega) (by omega), hs.symm⟩
  · subst e; exact ⟨i64s (by omega) (by omega), i64s (by omega) (by omega), hs.symm⟩
  · subst e; exact hs.symm

theorem cutOk_iff {b : Box} {x y : Int} : cutOk b x y = true ↔ bval b = true ∧ 0 ≤ x ∧ x < b.1.length ∧ b.1.getD x.toNat 0 ≤ y ∧ y < b.2.1.getD x.toNat 0 := by
  unfold cutOk at_
  simp only [Bool.and_eq_true, decide_eq_true_eq]
theorem cutS_no {b : Box} {x y : Int} (h : cutOk b x y = true → False) : ((([], [], ()), ([], [], ()), (1 : Int)) : Box × Box × Int) = cutS b x y := by
  unfold cutS; rw [if_neg h]; rfl
theorem cutS_yes {b : Box} {x y : Int} (h : cutOk b x y = true) : (((b.1, b.2.1.set x.toNat y, ()), (b.1.set x.toNat (y + 1), b.2.1, ()), (0 : Int)) : Box × Box × Int) = cutS b x y := by
  unfold cutS; rw [if_pos h]

theorem amax_succ (n : Nat) (w : Nat → Int) : amax (n + 1) w = if w (amax n w) < w n then n else amax n w := by
  unfold amax
  rw [List.range_succ, List.foldl_append]
  rfl
theorem amax_spec (w : Nat → Int) : ∀ n, 1 ≤ n → amax n w < n ∧ (∀ i, i < n → w i ≤ w (amax n w)) ∧ ∀ i, i < amax n w → w i < w (amax n w)
  | 0, h => by omega
  | 1, _ => by
    have e : amax 1 w = 0 := by rw [amax_succ]; show (if w 0 < w 0 then 0 else 0) = 0; simp
    rw [e]
    exact ⟨by omega, fun i hi => by rw [show i = 0 by omega]; omega, fun i hi => by omega⟩
  | n + 2, _ => by
    obtain ⟨h1, h2, h3⟩ := amax_spec w (n + 1) (by omega)
    rw [amax_succ]
    split
    · rename_i h
      refine ⟨by omega, fun i hi => ?_, fun i hi => ?_⟩
      · rcases Nat.lt_or_ge i (n + 1) with h' | h'
        · have := h2 i h'; omega
        · rw [show i = n + 1 by omega]; omega
      · have := h2 i hi; omega
    · rename_i h
      refine ⟨by omega, fun i hi => ?_, h3⟩
      rcases Nat.lt_or_ge i (n + 1) with h' | h'
      · exact h2 i h'
      · rw [show i = n + 1 by omega]; omega
theorem amax_le (w : Nat → Int) : ∀ n, amax n w ≤ n
  | 0 => Nat.le_refl _
  | n + 1 => by have := (amax_spec w (n + 1) (by omega)).1; omega
/-- The place of the greatest number. -/
theorem index_amax {l : List Int} {n : Nat} {w : Nat → Int} (hn : 1 ≤ n) (hl : l.length = n) (h : ∀ i, i < n → l.getD i 0 = w i) : indexS (maxS l) l = (amax n w : Int) ∧ l.getD (amax n w) 0 = w (amax n w) := by
  obtain ⟨a1, a2, a3⟩ := amax_spec w n hn
  have hm : maxS l = w (amax n w) := by
    obtain ⟨m1, m2, m3⟩ := mxN_spec l l.length
    rw [maxS_eq]
    have g1 := m2 (amax n w) (by omega)
    rw [h _ a1] at g1
    rcases m3 with m3 | ⟨i, hi, m3⟩
    · have := a2 0 (by omega); rw [← h 0 (by omega)] at this; omega
    · have := a2 i (by omega); rw [← h i (by omega)] at this; omega
  refine ⟨indexS_at (by omega) (by omega) ?_ (fun j hj => ?_), h _ a1⟩
  · rw [hm, Int.toNat_natCast, h _ a1]
  · rw [hm, h j (by omega)]
    have := a3 j (by omega)
    omega
theorem splitS_no {b : Box} (h : bval b = true → False) : ((0 : Int), (0 : Int), (1 : Int)) = splitS b := by
  unfold splitS; rw [if_neg h]
theorem splitS_yes {b : Box} (h : bval b = true) : splitS b = if widthF b (amax b.1.length (widthF b)) = 0 then ((0 : Int), (0 : Int), (4 : Int)) else ((amax b.1.length (widthF b) : Int), b.1.getD (amax b.1.length (widthF b)) 0 + widthF b (amax b.1.length (widthF b)) / 2, 0) := by
  unfold splitS; rw [if_pos h]; rfl

theorem mnK_succ (l : List (List Int)) (m k : Nat) : mnK l (m + 1) k = min (mnK l m k) ((l.getD m []).getD k 0) := by
  unfold mnK
  rw [List.range_succ, List.foldl_append]
  rfl
theorem mxK_succ (l : List (List Int)) (m k : Nat) : mxK l (m + 1) k = max (mxK l m k) ((l.getD m []).getD k 0) := by
  unfold mxK
  rw [List.range_succ, List.foldl_append]
  rfl
theorem mnK_zero (l : List (List Int)) (k : Nat) : mnK l 0 k = (l.getD 0 []).getD k 0 := rfl
theorem mxK_zero (l : List (List Int)) (k : Nat) : mxK l 0 k = (l.getD 0 []).getD k 0 := rfl
theorem ofOk_iff {l : List (List Int)} : ofOk l = true ↔ 1 ≤ l.length ∧ ∀ i, i < l.length → bvec (l.getD i []) = true ∧ (l.getD i []).length = (l.getD 0 []).length := by
  unfold ofOk row
  simp only [Bool.and_eq_true, upto_iff, decide_eq_true_eq]
theorem mnK_at (l : List (List Int)) (k : Nat) : ∀ m, (mnK l m k ≤ (l.getD 0 []).getD k 0) ∧ (∀ i, i < m → mnK l m k ≤ (l.getD i []).getD k 0) ∧ (mnK l m k = (l.getD 0 []).getD k 0 ∨ ∃ i, i < m ∧ mnK l m k = (l.getD i []).getD k 0)
  | 0 => ⟨Int.le_refl _, fun i hi => by omega, .inl rfl⟩
  | m + 1 => by
    obtain ⟨h1, h2, h3⟩ := mnK_at l k m
    rw [mnK_succ]
    refine ⟨by omega, fun i hi => ?_, ?_⟩
    · rcases Nat.lt_or_ge i m with h' | h'
      · have := h2 i h'; omega
      · rw [show i = m by omega]; omega
    · by_cases hc : mnK l m k ≤ (l.getD m []).getD k 0
      · rw [Int.min_eq_left hc]
        exact h3.imp id fun ⟨i, hi, h⟩ => ⟨i, by omega, h⟩
      · rw [Int.min_eq_right (by omega)]
        exact .inr ⟨m, by omega, rfl⟩
theorem mxK_at (l : List (List Int)) (k : Nat) : ∀ m, ((l.getD 0 []).getD k 0 ≤ mxK l m k) ∧ (∀ i, i < m → (l.getD i []).getD k 0 ≤ mxK l m k) ∧ (mxK l m k = (l.getD 0 []).getD k 0 ∨ ∃ i, i < m ∧ mxK l m k = (l.getD i []).getD k 0)
  | 0 => ⟨Int.le_refl _, fun i hi => by omega, .inl rfl⟩
  | m + 1 => by
    obtain ⟨h1, h2, h3⟩ := mxK_at l k m
    rw [mxK_succ]
    refine ⟨by omega, fun i hi => ?_, ?_⟩
    · rcases Nat.lt_or_ge i m with h' | h'
      · have := h2 i h'; omega
      · rw [show i = m by omega]; omega
    · by_cases hc : (l.getD m []).getD k 0 ≤ mxK l m k
      · rw [Int.max_eq_left hc]
        exact h3.imp id fun ⟨i, hi, h⟩ => ⟨i, by omega, h⟩
      · rw [Int.max_eq_right (by omega)]
        exact .inr ⟨m, by omega, rfl⟩
theorem ofOk_at {l : List (List Int)} (h : ofOk l = true) (i k : Nat) : -1000 ≤ (l.getD i []).getD k 0 ∧ (l.getD i []).getD k 0 ≤ 1000 := by
  rcases Nat.lt_or_ge i l.length with h' | h'
  · exact bvec_at ((ofOk_iff.1 h).2 i h').1 k
  · have e : l.getD i [] = [] := by rw [List.getD_eq_getElem?_getD, List.getElem?_eq_none h']; rfl
    rw [e]
    simp
theorem mnK_bd {l : List (List Int)} (h : ofOk l = true) (m k : Nat) : -1000 ≤ mnK l m k ∧ mnK l m k ≤ 1000 := by
  obtain ⟨_, _, h3⟩ := mnK_at l k m
  rcases h3 with h3 | ⟨i, _, h3⟩ <;> rw [h3] <;> exact ofOk_at h _ _
theorem mxK_bd {l : List (List Int)} (h : ofOk l = true) (m k : Nat) : -1000 ≤ mxK l m k ∧ mxK l m k ≤ 1000 := by
  obtain ⟨_, _, h3⟩ := mxK_at l k m
  rcases h3 with h3 | ⟨i, _, h3⟩ <;> rw [h3] <;> exact ofOk_at h _ _
theorem ofS_no {l : List (List Int)} (h : ofOk l = true → False) : ((([], [], ()), (1 : Int)) : Box × Int) = ofS l := by
  unfold ofS; rw [if_neg h]; rfl
theorem ofS_yes {l : List (List Int)} (h : ofOk l = true) : ofS l = ((tab (l.getD 0 []).length (mnK l l.length), tab (l.getD 0 []).length (mxK l l.length), ()), 0) := by
  unfold ofS; rw [if_pos h]; rfl
theorem tab_sm {n : Nat} {f : Nat → Int} (hn : n ≤ 64) (hf : ∀ i, -4000 ≤ f i ∧ f i ≤ 4000) : sm (tab n f) :=
  ⟨by rw [tab_length]; exact hn, fun i => by
    unfold at_
    rcases Nat.lt_or_ge i n with h | h
    · rw [tab_getD _ h]; exact hf i
    · rw [getD_out (by rw [tab_length]; exact h)]; omega⟩

theorem joinS_no {a b : Box} (h : balike a b = true → False) : ((([], [], ()), (1 : Int)) : Box × Int) = joinS a b := by
  unfold joinS; rw [if_neg h]; rfl
theorem joinS_yes {a b : Box} (h : balike a b = true) : joinS a b = (joinB a b, 0) := by
  unfold joinS; rw [if_pos h]
theorem meetS_no {a b : Box} (h : balike a b = true → False) : ((([], [], ()), false, (1 : Int)) : Box × Bool × Int) = meetS a b := by
  unfold meetS; rw [if_neg h]; rfl
theorem meetS_none {a b : Box} (h : balike a b = true) (h' : bval (meetB a b) = false) : ((([], [], ()), false, (0 : Int)) : Box × Bool × Int) = meetS a b := by
  unfold meetS; rw [if_pos h, if_neg (by rw [h']; simp)]; rfl
theorem meetS_yes {a b : Box} (h : balike a b = true) (h' : bval (meetB a b) = true) : meetS a b = (meetB a b, true, 0) := by
  unfold meetS; rw [if_pos h, if_pos h']
theorem meetB_val {a b : Box} (h : balike a b = true) : bval (meetB a b) = true ↔ ∀ i, i < a.1.length → max (a.1.getD i 0) (b.1.getD i 0) ≤ min (a.2.1.getD i 0) (b.2.1.getD i 0) := by
  obtain ⟨ha, hb, hl⟩ := balike_iff.1 h
  obtain ⟨l1, l2, l3⟩ := bval_len ha
  obtain ⟨k1, k2, k3⟩ := bval_len hb
  have e1 : (meetB a b).1 = tab a.1.length fun i => max (a.1.getD i 0) (b.1.getD i 0) := rfl
  have e2 : (meetB a b).2.1 = tab a.2.1.length fun i => min (a.2.1.getD i 0) (b.2.1.getD i 0) := rfl
  rw [bval_iff, bvec_iff, bvec_iff, e1, e2, tab_length, tab_length]
  constructor
  · rintro ⟨_, _, _, h4⟩ i hi
    have := h4 i hi
    rwa [tab_getD _ hi, tab_getD _ (by omega)] at this
  · intro h4
    refine ⟨⟨fun i hi => ?_, by omega, by omega⟩, ⟨fun i hi => ?_, by omega, by omega⟩, by omega, fun i hi => ?_⟩
    · rw [tab_getD _ hi]
      have := bval_at ha i; have := bval_at hb i; omega
    · rw [tab_getD _ hi]
      have := bval_at ha i; have := bval_at hb i; omega
    · rw [tab_getD _ hi, tab_getD _ (by omega)]
      exact h4 i hi
end Go.PL
