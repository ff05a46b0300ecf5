import Derived.Test.YtdnofflnfchcbaaXk
namespace Go.PL
open Go.AM
set_option linter.unusedVariables false

theorem sumK_mono {m : Int} {n : Nat} {f g : Nat → Int} (h : ∀ i, i < n → 0 ≤ f i ∧ f i ≤ g i) : sumK m n f ≤ sumK m n g := by
  induction n with
  | zero => exact Int.le_refl _
  | succ n ih =>
    rw [sumK_succ, sumK_succ]
    have h1 := ih fun i hi => h i (by omega)
    have h2 := h n (by omega)
    have h3 : f n * f n ≤ g n * g n := Int.mul_le_mul h2.2 h2.2 h2.1 (by omega)
    unfold bstep
    split
    · omega
    · split <;> omega
theorem sumK_nonneg {m : Int} {n : Nat} {f : Nat → Int} (h : ∀ i, i < n → 0 ≤ f i) : 0 ≤ sumK m n f := by
  induction n with
  | zero => exact Int.le_refl _
  | succ n ih =>
    rw [sumK_succ]
    have h1 := ih fun i hi => h i (by omega)
    have h2 := h n (by omega)
    have h3 : 0 ≤ f n * f n := Int.mul_nonneg h2 h2
    unfold bstep
    split
    · omega
    · split <;> omega
theorem sumK_le {m : Int} {n : Nat} {f : Nat → Int} (h : ∀ i, i < n → 0 ≤ f i ∧ f i ≤ 2000) : sumK m n f ≤ n * 4000000 := by
  induction n with
  | zero => exact Int.le_refl _
  | succ n ih =>
    rw [sumK_succ]
    have h1 := ih fun i hi => h i (by omega)
    have h2 := h n (by omega)
    have h3 := Int.mul_le_mul h2.2 h2.2 h2.1 (by omega)
    unfold bstep
    split
    · omega
    · split <;> omega
theorem sumK_eq0 {m : Int} {n : Nat} {f : Nat → Int} (h : ∀ i, i < n → 0 ≤ f i) : sumK m n f = 0 ↔ ∀ i, i < n → f i = 0 := by
  induction n with
  | zero => exact ⟨fun _ i hi => by omega, fun _ => rfl⟩
  | succ n ih =>
    have ih := ih fun i hi => h i (by omega)
    have h1 := sumK_nonneg (m := m) (n := n) (f := f) fun i hi => h i (by omega)
    have h2 := h n (by omega)
    have h3 : 0 ≤ f n * f n := Int.mul_nonneg h2 h2
    have h4 : f n * f n = 0 ↔ f n = 0 := ⟨fun e => (Int.mul_eq_zero.1 e).elim id id, fun e => by rw [e]; rfl⟩
    have key : sumK m (n + 1) f = 0 ↔ sumK m n f = 0 ∧ f n = 0 := by
      rw [sumK_succ]
      unfold bstep
      split
      · omega
      · split
        · constructor
          · intro e; exact ⟨by omega, h4.1 (by omega)⟩
          · rintro ⟨e1, e2⟩; rw [e1, e2]; rfl
        · omega
    rw [key, ih]
    constructor
    · rintro ⟨e1, e2⟩ i hi
      rcases Nat.lt_or_ge i n with h' | h'
      · exact e1 i h'
      · rw [show i = n by omega]; exact e2
    · intro e
      exact ⟨fun i hi => e i (by omega), e n (by omega)⟩

theorem inner_len (b : Box) (p : List Int) : (innerS b p).length = b.1.length := tab_length _ _
/-- What is picked is in the box. -/
theorem inner_has {b : Box} {p : List Int} (hb : bval b = true) (hp : ∀ x ∈ p, 0 ≤ x ∧ x ≤ 65535) : bhas b (innerS b p) = true := by
  rw [bhas_iff]
  refine ⟨hb, inner_len b p, fun i hi => ?_⟩
  rw [inner_len] at hi
  have e : (innerS b p).getD i 0 = at_ b.1 i + Int.tmod (if i < p.length then at_ p i else 0) (at_ b.2.1 i - at_ b.1 i + 1) := tab_getD _ hi
  have k := bval_at hb i
  have hz : 0 ≤ (if i < p.length then at_ p i else 0) := by
    split
    · rename_i h; exact (hp _ (Go.PL.getD_mem p 0 h)).1
    · omega
  have h1 := Int.tmod_nonneg (at_ b.2.1 i - at_ b.1 i + 1) hz
  have h2 := Int.tmod_lt_of_pos (if i < p.length then at_ p i else 0) (show 0 < at_ b.2.1 i - at_ b.1 i + 1 by unfold at_; omega)
  rw [e]
  unfold at_ at *
  omega
theorem has_vec {b : Box} {x : List Int} (h : bhas b x = true) : bvec x = true := by
  obtain ⟨hb, hl, hx⟩ := bhas_iff.1 h
  have l := bval_len hb
  exact bvec_iff.2 ⟨fun i hi => by have := hx i hi; have := bval_at hb i; omega, by omega, by omega⟩
theorem key_near_le {b : Box} {v x : List Int} (h : bhas b x = true) (i : Nat) (hi : i < x.length) : 0 ≤ nearF b v i ∧ nearF b v i ≤ keyF v x i ∧ keyF v x i ≤ farF b v i := by
  have := (bhas_iff.1 h).2.2 i hi
  unfold nearF farF keyF at_
  omega
theorem near_zero {b : Box} {v : List Int} (m : Int) (hb : bval b = true) (hl : v.length = b.1.length) : sumK m v.length (nearF b v) = 0 ↔ bhas b v = true := by
  rw [sumK_eq0 fun i _ => by unfold nearF; omega, bhas_iff]
  constructor
  · intro h
    refine ⟨hb, hl, fun i hi => ?_⟩
    have := h i hi
    unfold nearF at_ at this
    omega
  · rintro ⟨_, _, h⟩ i hi
    have := h i hi
    unfold nearF at_
    omega
theorem far_max {b : Box} {v : List Int} (m : Int) (hb : bval b = true) (hv : bvec v = true) : sumK m v.length (farF b v) ≤ 134217728 := by
  have h := sumK_le (m := m) (n := v.length) (f := farF b v) fun i _ => by
    have := bval_at hb i
    have := bvec_at hv i
    unfold farF at_
    omega
  have := bvec_len hv
  omega
theorem apart_key {a b : Box} {x y : List Int} (h : bhas a x = true) (h' : bhas b y = true) (i : Nat) (hi : i < x.length) (hj : i < y.length) : 0 ≤ apartF a b i ∧ apartF a b i ≤ keyF x y i := by
  have := (bhas_iff.1 h).2.2 i hi
  have := (bhas_iff.1 h').2.2 i hj
  unfold apartF keyF at_
  omega
theorem apart_zero {a b : Box} (m : Int) (h : balike a b = true) : sumK m a.1.length (apartF a b) = 0 ↔ bval (meetB a b) = true := by
  rw [sumK_eq0 fun i _ => by unfold apartF; omega, meetB_val h]
  obtain ⟨ha, hb, hl⟩ := balike_iff.1 h
  constructor
  · intro q i hi
    have := q i hi
    have := bval_at ha i
    have := bval_at hb i
    unfold apartF at_ at *
    omega
  · intro q i hi
    have := q i hi
    unfold apartF at_
    omega
theorem meet_is {a b : Box} (h : balike a b = true) : (meetS a b).2.1 = bval (meetB a b) ∧ (meetS a b).2.2 = 0 := by
  cases hm : bval (meetB a b) with
  | true => rw [meetS_yes h hm]; exact ⟨rfl, rfl⟩
  | false => rw [← meetS_none h hm]; exact ⟨rfl, rfl⟩
theorem keyF_comm (a b : List Int) (i : Nat) : keyF a b i = keyF b a i := by unfold keyF; omega
theorem nearest_has {b : Box} {v : List Int} (hb : bval b = true) (hl : v.length = b.1.length) : bhas b (nearestS b v) = true ∧ bhas b (farthestS b v) = true := by
  have e : (nearestS b v).length = v.length := tab_length _ _
  have e' : (farthestS b v).length = v.length := tab_length _ _
  refine ⟨bhas_iff.2 ⟨hb, by omega, fun i hi => ?_⟩, bhas_iff.2 ⟨hb, by omega, fun i hi => ?_⟩⟩
  · have g : (nearestS b v).getD i 0 = min (max (at_ v i) (at_ b.1 i)) (at_ b.2.1 i) := tab_getD _ (by omega)
    have := bval_at hb i
    rw [g]
    unfold at_
    omega
  · have g : (farthestS b v).getD i 0 = if at_ v i - at_ b.1 i < at_ b.2.1 i - at_ v i then at_ b.2.1 i else at_ b.1 i := tab_getD _ (by omega)
    have := bval_at hb i
    rw [g]
    unfold at_
    split <;> omega

/-! ### Join, Meet, Of -/
theorem joinB_comm {a b : Box} (h : balike a b = true) : joinB b a = joinB a b := by
  obtain ⟨ha, hb, hl⟩ := balike_iff.1 h
  have la := bval_len ha
  have lb := bval_len hb
  unfold joinB
  rw [tab_ext (n := b.1.length) (m := a.1.length) (g := fun i => min (at_ a.1 i) (at_ b.1 i)) (by omega) fun i _ => by omega,
    tab_ext (n := b.2.1.length) (m := a.2.1.length) (g := fun i => max (at_ a.2.1 i) (at_ b.2.1 i)) (by omega) fun i _ => by omega]
theorem balike_symm {a b : Box} (h : balike a b = true) : balike b a = true := by
  obtain ⟨ha, hb, hl⟩ := balike_iff.1 h
  exact balike_iff.2 ⟨hb, ha, hl.symm⟩
theorem meetB_comm {a b : Box} (h : balike a b = true) : meetB b a = meetB a b := by
  obtain ⟨ha, hb, hl⟩ := balike_iff.1 h
  have la := bval_len ha
  have lb := bval_len hb
  unfold meetB
  rw [tab_ext (n := b.1.length) (m := a.1.length) (g := fun i => max (at_ a.1 i) (at_ b.1 i)) (by omega) fun i _ => by omega,
    tab_ext (n := b.2.1.length) (m := a.2.1.length) (g := fun i => min (at_ a.2.1 i) (at_ b.2.1 i)) (by omega) fun i _ => by omega]
theorem meetS_comm {a b : Box} (h : balike a b = true) : meetS b a = meetS a b := by
  unfold meetS
  rw [balike_symm h, h, meetB_comm h]
theorem joinB_val {a b : Box} (h : balike a b = true) : bval (joinB a b) = true ∧ (joinB a b).1.length = a.1.length ∧ (joinB a b).2.1.length = a.1.length ∧ ∀ i, i < a.1.length → (joinB a b).1.getD i 0 = min (a.1.getD i 0) (b.1.getD i 0) ∧ (joinB a b).2.1.getD i 0 = max (a.2.1.getD i 0) (b.2.1.getD i 0) := by
  obtain ⟨ha, hb, hl⟩ := balike_iff.1 h
  have la := bval_len ha
  have lb := bval_len hb
  have l1 : (joinB a b).1.length = a.1.length := tab_length _ _
  have l2 : (joinB a b).2.1.length = a.2.1.length := tab_length _ _
  have g1 : ∀ i, i < a.1.length → (joinB a b).1.getD i 0 = min (a.1.getD i 0) (b.1.getD i 0) := fun i hi => tab_getD _ hi
  have g2 : ∀ i, i < a.1.length → (joinB a b).2.1.getD i 0 = max (a.2.1.getD i 0) (b.2.1.getD i 0) := fun i hi => tab_getD _ (by omega)
  refine ⟨bval_iff.2 ⟨bvec_iff.2 ⟨fun i hi => ?_, by omega, by omega⟩, bvec_iff.2 ⟨fun i hi => ?_, by omega, by omega⟩, by omega, fun i hi => ?_⟩, l1, by omega, fun i hi => ⟨g1 i hi, g2 i hi⟩⟩
  · rw [g1 i (by omega)]; have := bval_at ha i; have := bval_at hb i; omega
  · rw [g2 i (by omega)]; have := bval_at ha i; have := bval_at hb i; omega
  · rw [g1 i (by omega), g2 i (by omega)]; have := bval_at ha i; have := bval_at hb i; omega
theorem join_has {a b : Box} {x : List Int} (h : balike a b = true) (hx : bhas a x = true) : bhas (joinB a b) x = true := by
  obtain ⟨j1, j2, j3, j4⟩ := joinB_val h
  obtain ⟨_, h2, h3⟩ := bhas_iff.1 hx
  exact bhas_iff.2 ⟨j1, by omega, fun i hi => by rw [(j4 i (by omega)).1, (j4 i (by omega)).2]; have := h3 i hi; omega⟩
theorem inside_self {a : Box} (ha : bval a = true) : bhas a a.1 = true ∧ bhas a a.2.1 = true := by
  have l := bval_len ha
  exact ⟨bhas_iff.2 ⟨ha, rfl, fun i hi => by have := bval_at ha i; omega⟩, bhas_iff.2 ⟨ha, by omega, fun i hi => by have := bval_at ha i; omega⟩⟩
theorem join_inside {a b : Box} (h : balike a b = true) : binside a (joinB a b) = true := by
  obtain ⟨ha, _, _⟩ := balike_iff.1 h
  exact binside_iff.2 ⟨ha, join_has h (inside_self ha).1, join_has h (inside_self ha).2⟩
theorem meetB_at {a b : Box} (h : balike a b = true) : (meetB a b).1.length = a.1.length ∧ (meetB a b).2.1.length = a.1.length ∧ ∀ i, i < a.1.length → (meetB a b).1.getD i 0 = max (a.1.getD i 0) (b.1.getD i 0) ∧ (meetB a b).2.1.getD i 0 = min (a.2.1.getD i 0) (b.2.1.getD i 0) := by
  obtain ⟨ha, hb, hl⟩ := balike_iff.1 h
  have la := bval_len ha
  have l2 : (meetB a b).2.1.length = a.2.1.length := tab_length _ _
  exact ⟨tab_length _ _, by omega, fun i hi => ⟨tab_getD _ hi, tab_getD _ (by omega)⟩⟩
theorem meet_has {a b : Box} {x : List Int} (h : balike a b = true) (hm : bval (meetB a b) = true) (hx : bhas a x = true) : bhas b x = bhas (meetB a b) x := by
  obtain ⟨m1, m2, m3⟩ := meetB_at h
  obtain ⟨ha, hb, hl⟩ := balike_iff.1 h
  obtain ⟨_, h2, h3⟩ := bhas_iff.1 hx
  apply bool_is
  rw [bhas_iff, bhas_iff]
  constructor
  · rintro ⟨_, _, q⟩
    exact ⟨hm, by omega, fun i hi => by rw [(m3 i (by omega)).1, (m3 i (by omega)).2]; have := h3 i hi; have := q i hi; omega⟩
  · rintro ⟨_, _, q⟩
    exact ⟨hb, by omega, fun i hi => by have := q i hi; rw [(m3 i (by omega)).1, (m3 i (by omega)).2] at this; omega⟩
theorem meet_none {a b : Box} {x : List Int} (h : balike a b = true) (hm : bval (meetB a b) = false) (hx : bhas a x = true) : bhas b x = false := by
  refine eq_no fun hbx => ?_
  have := (meetB_val h).2 fun i hi => by
    obtain ⟨_, h2, h3⟩ := bhas_iff.1 hx
    have := h3 i (by omega)
    have := (bhas_iff.1 hbx).2.2 i (by omega)
    omega
  rw [hm] at this
  cases this
theorem meet_inside {a b : Box} (h : balike a b = true) (hm : bval (meetB a b) = true) : binside (meetB a b) a = true ∧ binside (meetB a b) b = true := by
  obtain ⟨m1, m2, m3⟩ := meetB_at h
  obtain ⟨ha, hb, hl⟩ := balike_iff.1 h
  have k := (meetB_val h).1 hm
  have q : ∀ i, i < a.1.length → a.1.getD i 0 ≤ (meetB a b).1.getD i 0 ∧ (meetB a b).1.getD i 0 ≤ a.2.1.getD i 0 ∧ a.1.getD i 0 ≤ (meetB a b).2.1.getD i 0 ∧ (meetB a b).2.1.getD i 0 ≤ a.2.1.getD i 0 ∧ b.1.getD i 0 ≤ (meetB a b).1.getD i 0 ∧ (meetB a b).1.getD i 0 ≤ b.2.1.getD i 0 ∧ b.1.getD i 0 ≤ (meetB a b).2.1.getD i 0 ∧ (meetB a b).2.1.getD i 0 ≤ b.2.1.getD i 0 := fun i hi => by
    rw [(m3 i hi).1, (m3 i hi).2]
    have := k i hi
    omega
  exact ⟨binside_iff.2 ⟨hm, bhas_iff.2 ⟨ha, by omega, fun i hi => by have := q i (by omega); omega⟩, bhas_iff.2 ⟨ha, by omega, fun i hi => by have := q i (by omega); omega⟩⟩,
    binside_iff.2 ⟨hm, bhas_iff.2 ⟨hb, by omega, fun i hi => by have := q i (by omega); omega⟩, bhas_iff.2 ⟨hb, by omega, fun i hi => by have := q i (by omega); omega⟩⟩⟩
theorem ofB_val {l : List (List Int)} (h : ofOk l = true) : bval ((tab (l.getD 0 []).length (mnK l l.length), tab (l.getD 0 []).length (mxK l l.length), ()) : Box) = true := by
  have hn := bvec_len ((ofOk_iff.1 h).2 0 (ofOk_iff.1 h).1).1
  refine bval_iff.2 ⟨bvec_iff.2 ⟨fun i hi => ?_, by rw [tab_length]; omega, by rw [tab_length]; omega⟩, bvec_iff.2 ⟨fun i hi => ?_, by rw [tab_length]; omega, by rw [tab_length]; omega⟩, by simp only [tab_length], fun i hi => ?_⟩
  · rw [tab_length] at hi; rw [tab_getD _ hi]; exact mnK_bd h _ _
  · rw [tab_length] at hi; rw [tab_getD _ hi]; exact mxK_bd h _ _
  · simp only [tab_length] at hi
    simp only
    rw [tab_getD _ hi, tab_getD _ hi]
    have := (mnK_at l i l.length).1
    have := (mxK_at l i l.length).1
    omega
theorem ofB_has {l : List (List Int)} (h : ofOk l = true) (i : Nat) (hi : i < l.length) : bhas ((tab (l.getD 0 []).length (mnK l l.length), tab (l.getD 0 []).length (mxK l l.length), ()) : Box) (l.getD i []) = true := by
  have hl := ((ofOk_iff.1 h).2 i hi).2
  refine bhas_iff.2 ⟨ofB_val h, by simp only [tab_length]; exact hl, fun k hk => ?_⟩
  simp only
  rw [tab_getD _ (by omega), tab_getD _ (by omega)]
  exact ⟨(mnK_at l k l.length).2.1 i hi, (mxK_at l k l.length).2.1 i hi⟩
def anyN (n : Nat) (p : Nat → Bool) : Bool := (List.range n).any p
theorem anyN_succ (n : Nat) (p : Nat → Bool) : anyN (n + 1) p = (anyN n p || p n) := by
  unfold anyN
  rw [List.range_succ, List.any_append]
  simp
theorem anyN_of {n : Nat} {p : Nat → Bool} {i : Nat} (h : i < n) (hp : p i = true) : anyN n p = true := by
  unfold anyN
  rw [List.any_eq_true]
  exact ⟨i, List.mem_range.2 h, hp⟩
end Go.PL
