import Derived.Test.YtdeleoaeegmhlaaMYp
namespace Go.PL
open Go.AM
set_option linter.unusedVariables false
/-- A valid division of the space. -/
structure GoodN (n : Nat) (d : Dv) : Prop where
  d1 : 1 ≤ d.1
  d2 : d.1 ≤ 32
  deep : deepN n d.2.2.1
  val : validT n d.2.2.1 (wholeB d.1)
  few : (regsN n d.2.2.1 (wholeB d.1)).length ≤ 64
abbrev Good (d : Dv) : Prop := GoodN 60 d
theorem good_of {d : Dv} (h : fewD 60 d = true) (h' : validD 60 d = true) : Good d := by
  unfold fewD at h
  unfold validD at h'
  simp only [Bool.and_eq_true, decide_eq_true_eq] at h'
  obtain ⟨h1, h2, h3, h4, h5⟩ := h'
  obtain ⟨h6, h7⟩ := count_ok 60 _ _ _ h5
  exact ⟨h1, h2, parts_deep 60 _ _ (of_decide_eq_true h), h6, by omega⟩
theorem bval_whole {k : Int} (h1 : 1 ≤ k) (h2 : k ≤ 32) : bval (wholeB k) = true := by
  have e1 : ∀ i, i < k.toNat → (wholeB k).1.getD i 0 = -1000 := fun i hi => by
    show (List.replicate k.toNat (-1000 : Int)).getD i 0 = _
    rw [List.getD_eq_getElem?_getD, List.getElem?_replicate, if_pos hi]
    rfl
  have e2 : ∀ i, i < k.toNat → (wholeB k).2.1.getD i 0 = 1000 := fun i hi => by
    show (List.replicate k.toNat (1000 : Int)).getD i 0 = _
    rw [List.getD_eq_getElem?_getD, List.getElem?_replicate, if_pos hi]
    rfl
  have l1 : (wholeB k).1.length = k.toNat := List.length_replicate
  have l2 : (wholeB k).2.1.length = k.toNat := List.length_replicate
  refine bval_iff.2 ⟨bvec_iff.2 ⟨fun i hi => ?_, by omega, by omega⟩, bvec_iff.2 ⟨fun i hi => ?_, by omega, by omega⟩, by omega, fun i hi => ?_⟩
  · rw [e1 i (by omega)]; omega
  · rw [e2 i (by omega)]; omega
  · rw [e1 i (by omega), e2 i (by omega)]; omega
theorem bhas_whole {k : Int} (h1 : 1 ≤ k) (h2 : k ≤ 32) {v : List Int} (hv : bvec v = true) (hl : (v.length : Int) = k) : bhas (wholeB k) v = true := by
  have e1 : ∀ i, i < k.toNat → (wholeB k).1.getD i 0 = -1000 := fun i hi => by
    show (List.replicate k.toNat (-1000 : Int)).getD i 0 = _
    rw [List.getD_eq_getElem?_getD, List.getElem?_replicate, if_pos hi]
    rfl
  have e2 : ∀ i, i < k.toNat → (wholeB k).2.1.getD i 0 = 1000 := fun i hi => by
    show (List.replicate k.toNat (1000 : Int)).getD i 0 = _
    rw [List.getD_eq_getElem?_getD, List.getElem?_replicate, if_pos hi]
    rfl
  have l1 : (wholeB k).1.length = k.toNat := List.length_replicate
  refine bhas_iff.2 ⟨bval_whole h1 h2, by omega, fun i hi => ?_⟩
  rw [e1 i (by omega), e2 i (by omega)]
  exact bvec_at hv i
theorem meet_comm {a b : Box} (h : bval (meetB a b) = false) (ha : balike a b = true) (hb : balike b a = true) : bval (meetB b a) = false := eq_no fun hm => by
  have hl := (balike_iff.1 ha).2.2
  have : bval (meetB a b) = true := (meetB_val ha).2 fun i hi => by
    have := (meetB_val hb).1 hm i (by omega)
    rw [Int.max_comm, Int.min_comm]
    exact this
  rw [h] at this
  cases this
theorem meet_has {a b : Box} {v : List Int} (ha : bhas a v = true) (hb : bhas b v = true) : balike a b = true ∧ bval (meetB a b) = true := by
  obtain ⟨a1, a2, a3⟩ := bhas_iff.1 ha
  obtain ⟨b1, b2, b3⟩ := bhas_iff.1 hb
  have hl : balike a b = true := balike_iff.2 ⟨a1, b1, by omega⟩
  refine ⟨hl, (meetB_val hl).2 fun i hi => ?_⟩
  have h1 := a3 i (by omega)
  have h2 := b3 i (by omega)
  omega
/-! ### The areas of a valid division -/
theorem areas_len (n : Nat) (d : Dv) : (areasN n d).length = (regsN n d.2.2.1 (wholeB d.1)).length := List.length_map ..
theorem areas_at {n : Nat} {d : Dv} {i : Nat} (h : i < (areasN n d).length) : ∃ p, p ∈ regsN n d.2.2.1 (wholeB d.1) ∧ (areasN n d).getD i dAr = areaOf p ∧ (regsN n d.2.2.1 (wholeB d.1))[i]? = some p := by
  have h' := h
  rw [areas_len] at h'
  refine ⟨(regsN n d.2.2.1 (wholeB d.1))[i], List.getElem_mem h', ?_, List.getElem?_eq_getElem h'⟩
  rw [List.getD_eq_getElem?_getD]
  unfold areasN
  rw [List.getElem?_map, List.getElem?_eq_getElem h']
  rfl
namespace GoodN
variable {n : Nat} {d : Dv}
theorem bval (h : GoodN n d) : Go.PL.bval (wholeB d.1) = true := bval_whole h.d1 h.d2
theorem pre (h : GoodN n d) : preA n d := ⟨h.d1, by have := h.d2; omega, h.deep, by have := h.few; omega, fun p hp => by
  have := goodS_iff.1 (leaf_iff.1 (regs_sub h.bval h.val p hp).2).2.2.2
  omega⟩
theorem sub (h : GoodN n d) {i : Nat} (hi : i < (areasN n d).length) : subB ((areasN n d).getD i dAr).1 (wholeB d.1) ∧ goodS ((areasN n d).getD i dAr).2.1 = true := by
  obtain ⟨p, hp, e, _⟩ := areas_at hi
  rw [e]
  have := regs_sub h.bval h.val p hp
  exact ⟨this.1, (leaf_iff.1 this.2).2.2.2⟩
theorem apart (h : GoodN n d) {i j : Nat} (hij : i < j) (hj : j < (areasN n d).length) : Go.PL.bval (meetB ((areasN n d).getD i dAr).1 ((areasN n d).getD j dAr).1) = false := by
  have hp := regs_apart h.bval h.val
  obtain ⟨p, hp1, e1, g1⟩ := areas_at (d := d) (n := n) (i := i) (by omega)
  obtain ⟨q, hq1, e2, g2⟩ := areas_at hj
  rw [e1, e2]
  have hj' := hj
  rw [areas_len] at hj'
  have := List.pairwise_iff_getElem.1 hp i j (by omega) hj' hij
  rw [List.getElem?_eq_getElem (by omega)] at g1
  rw [List.getElem?_eq_getElem hj'] at g2
  simp only [Option.some.injEq] at g1 g2
  rw [g1, g2] at this
  exact this
theorem alike (h : GoodN n d) {i j : Nat} (hi : i < (areasN n d).length) (hj : j < (areasN n d).length) : balike ((areasN n d).getD i dAr).1 ((areasN n d).getD j dAr).1 = true := balike_sub (h.sub hi).1 (h.sub hj).1
theorem apart' (h : GoodN n d) {i j : Nat} (hij : i ≠ j) (hi : i < (areasN n d).length) (hj : j < (areasN n d).length) : Go.PL.bval (meetB ((areasN n d).getD i dAr).1 ((areasN n d).getD j dAr).1) = false := by
  rcases Nat.lt_or_ge i j with hl | hl
  · exact h.apart hl hj
  · exact meet_comm (h.apart (i := j) (j := i) (by omega) hi) (h.alike hj hi) (h.alike hi hj)
/-- Two regions with the same vector are the same one. -/
theorem only (h : GoodN n d) {v : List Int} {i j : Nat} (hi : i < (areasN n d).length) (hj : j < (areasN n d).length) (h1 : bhas ((areasN n d).getD i dAr).1 v = true) (h2 : bhas ((areasN n d).getD j dAr).1 v = true) : i = j := by
  rcases Nat.decEq i j with hn | he
  · have := (meet_has h1 h2).2
    rw [h.apart' hn hi hj] at this
    cases this
  · exact he
/-- Each vector has a home. -/
theorem home (h : GoodN n d) {v : List Int} (hv : bvec v = true) (hl : (v.length : Int) = d.1) : 0 ≤ homeN n d v ∧ homeN n d v < (areasN n d).length ∧ bhas ((areasN n d).getD (homeN n d v).toNat dAr).1 v = true := by
  have hone := regs_one h.bval h.val v
  rw [if_pos (bhas_whole h.d1 h.d2 hv hl)] at hone
  have hg := homeL_ge v (areasN n d)
  have h0 : 0 ≤ homeN n d v := by
    rcases Decidable.em (homeN n d v < 0) with hn | hn
    · exfalso
      have hmem : ∃ p, p ∈ (regsN n d.2.2.1 (wholeB d.1)).filter fun p => bhas p.1 v := by
        cases hf : (regsN n d.2.2.1 (wholeB d.1)).filter fun p => bhas p.1 v with
        | nil => rw [hf] at hone; simp at hone
        | cons p l => exact ⟨p, by simp⟩
      obtain ⟨p, hp⟩ := hmem
      obtain ⟨hp1, hp2⟩ := List.mem_filter.1 hp
      obtain ⟨i, hi, e⟩ := List.mem_iff_getElem.1 hp1
      have hi' : i < (areasN n d).length := by rw [areas_len]; exact hi
      obtain ⟨q, hq, e', g⟩ := areas_at hi'
      rw [List.getElem?_eq_getElem hi] at g
      simp only [Option.some.injEq] at g
      have hq2 : bhas ((areasN n d).getD i dAr).1 v = true := by rw [e', ← g, e]; exact hp2
      -- the first one that has it
      have key : ∀ l : List Ar, (∃ j, j < l.length ∧ bhas (l.getD j dAr).1 v = true) → 0 ≤ homeL l v := by
        intro l
        induction l with
        | nil => intro ⟨j, hj, _⟩; simp at hj
        | cons a l ih =>
          intro ⟨j, hj, hb⟩
          unfold homeL
          split
          · omega
          · rename_i ha
            have : 0 ≤ homeL l v := by
              cases j with
              | zero => exact absurd hb ha
              | succ j => exact ih ⟨j, by simp only [List.length_cons] at hj; omega, by rwa [List.getD_cons_succ] at hb⟩
            split <;> omega
      have := key (areasN n d) ⟨i, hi', hq2⟩
      have e3 : homeN n d v = homeL (areasN n d) v := rfl
      omega
    · omega
  exact ⟨h0, hg.2, homeL_has h0⟩
theorem home_iff (h : GoodN n d) {v : List Int} (hv : bvec v = true) (hl : (v.length : Int) = d.1) {i : Nat} (hi : i < (areasN n d).length) : bhas ((areasN n d).getD i dAr).1 v = true ↔ homeN n d v = i := by
  obtain ⟨h0, h1, h2⟩ := h.home hv hl
  constructor
  · intro hb
    have := h.only hi (by omega) hb h2
    omega
  · intro e
    rw [e] at h2
    simpa using h2
end GoodN
end Go.PL
