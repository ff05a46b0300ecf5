import Derived.Test.YtdeleoaeegmhlaaMYr
namespace Go.PL
open Go.AM
set_option linter.unusedVariables false
/-! ### Moves, plain -/
theorem flat_only {α β : Type} {d : α} {f : α → List β} : ∀ {l : List α} {i : Nat}, i < l.length → (∀ j, j < l.length → j ≠ i → f (l.getD j d) = []) → l.flatMap f = f (l.getD i d)
  | [], i, h, _ => by simp at h
  | a :: l, 0, h, h' => by
    have : l.flatMap f = [] := by
      rw [List.flatMap_eq_nil_iff]
      intro x hx
      obtain ⟨j, hj, e⟩ := List.mem_iff_getElem.1 hx
      have := h' (j + 1) (by simp only [List.length_cons]; omega) (by omega)
      rw [List.getD_cons_succ, List.getD_eq_getElem?_getD, List.getElem?_eq_getElem hj] at this
      rw [← e]
      exact this
    rw [List.flatMap_cons, this, List.append_nil]
    rfl
  | a :: l, i + 1, h, h' => by
    have h0 : f a = [] := h' 0 (by simp only [List.length_cons]; omega) (by omega)
    rw [List.flatMap_cons, h0, List.nil_append, List.getD_cons_succ]
    exact flat_only (by simp only [List.length_cons] at h; omega) fun j hj hji => by
      have := h' (j + 1) (by simp only [List.length_cons]; omega) (by omega)
      rwa [List.getD_cons_succ] at this
theorem flat_len {α β : Type} {f : α → List β} {c : Nat} : ∀ {l : List α}, (∀ x ∈ l, (f x).length ≤ c) → (l.flatMap f).length ≤ l.length * c
  | [], _ => by simp
  | a :: l, h => by
    rw [List.flatMap_cons, List.length_append, List.length_cons, Nat.succ_mul]
    have h1 := h a List.mem_cons_self
    have h2 := flat_len (f := f) (c := c) (l := l) fun x hx => h x (List.mem_cons_of_mem _ hx)
    omega
theorem mem_getD {α : Type} {l : List α} {x : α} (d : α) (h : x ∈ l) : ∃ i, i < l.length ∧ l.getD i d = x := by
  obtain ⟨i, hi, e⟩ := List.mem_iff_getElem.1 h
  exact ⟨i, hi, by rw [List.getD_eq_getElem?_getD, List.getElem?_eq_getElem hi]; exact e⟩
theorem good_inj {l : List Int} (h : goodS l = true) : ∀ {i j : Nat}, i < j → j < l.length → l.getD i 0 < l.getD j 0
  | i, 0, hij, _ => by omega
  | i, j + 1, hij, hj => by
    have hs := ((goodS_iff.1 h).1 (j + 1) hj).2.2
    unfold at_ at hs
    have hs : l.getD j 0 < l.getD (j + 1) 0 := by
      rcases hs with h' | h'
      · omega
      · exact h'
    rcases Nat.lt_or_ge i j with hl | hl
    · exact Int.lt_trans (good_inj h hl (by omega)) hs
    · have : i = j := by omega
      subst this
      exact hs
theorem good_idx {l : List Int} (h : goodS l = true) {i j : Nat} (hi : i < l.length) (hj : j < l.length) (e : l.getD i 0 = l.getD j 0) : i = j := by
  rcases Nat.lt_trichotomy i j with hl | he | hl
  · have := good_inj h hl hj; omega
  · exact he
  · have := good_inj h hl hi; omega
theorem meets_iff {x y : Ar} (h : balike x.1 y.1 = true) : meets x y = bval (meetB x.1 y.1) := by
  unfold meets
  cases hb : bval (meetB x.1 y.1)
  · rw [← meetS_none h hb]; rfl
  · rw [meetS_yes h hb]; rfl
theorem meet_both {a b : Box} {v : List Int} (h : balike a b = true) (hm : bval (meetB a b) = true) : bhas (meetB a b) v = true ↔ bhas a v = true ∧ bhas b v = true := by
  obtain ⟨ha, hb, hl⟩ := balike_iff.1 h
  have la : a.2.1.length = a.1.length := (bval_len ha).2.2
  have e1 : ∀ i, i < a.1.length → (meetB a b).1.getD i 0 = max (a.1.getD i 0) (b.1.getD i 0) := fun i hi => tab_getD _ hi
  have e2 : ∀ i, i < a.1.length → (meetB a b).2.1.getD i 0 = min (a.2.1.getD i 0) (b.2.1.getD i 0) := fun i hi => tab_getD _ (by omega)
  have l1 : (meetB a b).1.length = a.1.length := tab_length ..
  rw [bhas_iff, bhas_iff, bhas_iff]
  constructor
  · rintro ⟨_, h2, h3⟩
    refine ⟨⟨ha, by omega, fun i hi => ?_⟩, hb, by omega, fun i hi => ?_⟩
    · have := h3 i hi; rw [e1 i (by omega), e2 i (by omega)] at this; omega
    · have := h3 i hi; rw [e1 i (by omega), e2 i (by omega)] at this; omega
  · rintro ⟨⟨_, h2, h3⟩, _, h4, h5⟩
    refine ⟨hm, by omega, fun i hi => ?_⟩
    rw [e1 i (by omega), e2 i (by omega)]
    have := h3 i hi
    have := h5 i hi
    omega
theorem moveF_len (x y : Ar) (n : Int) : (moveF x y n).length ≤ 1 := by unfold moveF; split <;> simp
theorem movesY_len {x y : Ar} (h : x.2.1.length ≤ 4) : (movesY x y).length ≤ 4 := by
  unfold movesY
  split
  · have := flat_len (f := moveF x y) (c := 1) (l := x.2.1) fun n _ => moveF_len x y n
    omega
  · simp
/-- What is moved to an office and has a vector. -/
def toO (o : Int) (v : List Int) (m : Mv) : Bool := decide (m.2.2.1 = o) && bhas m.1 v
namespace Good
variable {a b : Dv}
theorem offs4 (h : Good a) {x : Ar} (hx : x ∈ areasN 60 a) : goodS x.2.1 = true ∧ x.2.1.length ≤ 4 := by
  obtain ⟨i, hi, e⟩ := mem_getD dAr hx
  have := (h.sub hi).2
  rw [e] at this
  exact ⟨this, (goodS_iff.1 this).2.2⟩
theorem preM (ha : Good a) (hb : Good b) : Go.PL.preM 60 a b := ⟨ha.pre, hb.pre, by
  have lb := hb.few
  have la := ha.few
  rw [← areas_len] at la lb
  have := flat_len (f := movesX (areasN 60 a)) (c := 256) (l := areasN 60 b) fun x hx => by
    have := flat_len (f := movesY x) (c := 4) (l := areasN 60 a) fun y hy => movesY_len (hb.offs4 hx).2
    unfold movesX
    omega
  have e : (movesN 60 a b).length = ((areasN 60 b).flatMap (movesX (areasN 60 a))).length := rfl
  omega⟩
theorem like (ha : Good a) (hb : Good b) (hd : a.1 = b.1) {i j : Nat} (hi : i < (areasN 60 b).length) (hj : j < (areasN 60 a).length) : balike ((areasN 60 b).getD i dAr).1 ((areasN 60 a).getD j dAr).1 = true := by
  have h1 := (hb.sub hi).1
  have h2 := (ha.sub hj).1
  rw [hd] at h2
  exact balike_sub h1 h2
theorem moves_self (ha : Good a) : movesN 60 a a = [] := by
  show (areasN 60 a).flatMap (movesX (areasN 60 a)) = []
  rw [List.flatMap_eq_nil_iff]
  intro x hx
  unfold movesX
  rw [List.flatMap_eq_nil_iff]
  intro y hy
  obtain ⟨i, hi, e⟩ := mem_getD dAr hx
  obtain ⟨j, hj, e'⟩ := mem_getD dAr hy
  unfold movesY
  split
  · rename_i hm
    rw [List.flatMap_eq_nil_iff]
    intro n hn
    have hl := ha.like ha rfl hi hj
    rcases Nat.decEq i j with hne | he
    · rw [← e, ← e', meets_iff hl, ha.apart' hne hi hj] at hm
      cases hm
    · subst he
      have exy : x = y := e.symm.trans e'
      subst exy
      obtain ⟨q, hq, eq⟩ := mem_getD 0 hn
      unfold moveF
      rw [if_pos (inL_iff.2 ⟨q, hq, eq⟩)]
  · rfl
/-- .. at most one, from one's home. -/
theorem moves_to (ha : Good a) (hb : Good b) (hd : a.1 = b.1) {v : List Int} (hv : bvec v = true) (hl : (v.length : Int) = a.1) (o : Int) :
    (movesN 60 a b).filter (toO o v) = if inL ((areasN 60 b).getD (homeN 60 b v).toNat dAr).2.1 o = true ∧ inL ((areasN 60 a).getD (homeN 60 a v).toNat dAr).2.1 o = false then
      [(meetB ((areasN 60 b).getD (homeN 60 b v).toNat dAr).1 ((areasN 60 a).getD (homeN 60 a v).toNat dAr).1, ((areasN 60 a).getD (homeN 60 a v).toNat dAr).2.1, o, ())] else [] := by
  obtain ⟨a0, a1, a2⟩ := ha.home hv hl
  obtain ⟨b0, b1, b2⟩ := hb.home hv (by omega)
  have ia : ∀ j, j < (areasN 60 a).length → j ≠ (homeN 60 a v).toNat → bhas ((areasN 60 a).getD j dAr).1 v = false := fun j hj hn => eq_no fun h => hn (ha.only hj (by omega) h a2)
  have ib : ∀ j, j < (areasN 60 b).length → j ≠ (homeN 60 b v).toNat → bhas ((areasN 60 b).getD j dAr).1 v = false := fun j hj hn => eq_no fun h => hn (hb.only hj (by omega) h b2)
  have step : ∀ {i j : Nat}, i < (areasN 60 b).length → j < (areasN 60 a).length → (bhas ((areasN 60 b).getD i dAr).1 v = false ∨ bhas ((areasN 60 a).getD j dAr).1 v = false) → (movesY ((areasN 60 b).getD i dAr) ((areasN 60 a).getD j dAr)).filter (toO o v) = [] := by
    intro i j hi hj hn
    have hlk := ha.like hb hd hi hj
    unfold movesY
    rw [meets_iff hlk]
    split
    · rename_i hm
      rw [List.filter_eq_nil_iff]
      intro m hm'
      obtain ⟨n, hn1, hn2⟩ := List.mem_flatMap.1 hm'
      unfold moveF at hn2
      split at hn2
      · simp at hn2
      · simp only [List.mem_singleton] at hn2
        subst hn2
        unfold toO
        rw [meetS_yes hlk hm]
        intro hc
        simp only [Bool.and_eq_true] at hc
        obtain ⟨c1, c2⟩ := (meet_both hlk hm).1 hc.2
        rcases hn with h | h
        · rw [h] at c1; cases c1
        · rw [h] at c2; cases c2
    · rfl
  show ((areasN 60 b).flatMap (movesX (areasN 60 a))).filter (toO o v) = _
  rw [List.filter_flatMap, flat_only (d := dAr) (i := (homeN 60 b v).toNat) (by omega) fun j hj hn => by
    unfold movesX
    rw [List.filter_flatMap, List.flatMap_eq_nil_iff]
    intro y hy
    obtain ⟨q, hq, e⟩ := mem_getD dAr hy
    rw [← e]
    exact step hj hq (.inl (ib j hj hn))]
  unfold movesX
  rw [List.filter_flatMap, flat_only (d := dAr) (i := (homeN 60 a v).toNat) (by omega) fun j hj hn => step (by omega) hj (.inr (ia j hj hn))]
  have hlk := ha.like hb hd (i := (homeN 60 b v).toNat) (j := (homeN 60 a v).toNat) (by omega) (by omega)
  have gb := (hb.sub (i := (homeN 60 b v).toNat) (by omega)).2
  revert b2 a2 hlk gb
  generalize (areasN 60 b).getD (homeN 60 b v).toNat dAr = x
  generalize (areasN 60 a).getD (homeN 60 a v).toNat dAr = y
  intro a2 b2 hlk gb
  have hm := (meet_has b2 a2).2
  unfold movesY
  rw [meets_iff hlk, hm, if_pos rfl, List.filter_flatMap]
  have hF : ∀ n, (moveF x y n).filter (toO o v) = if n = o ∧ inL y.2.1 n = false then [(meetB x.1 y.1, y.2.1, n, ())] else [] := by
    intro n
    unfold moveF
    cases hi : inL y.2.1 n
    · by_cases hn : n = o
      · rw [if_neg (by simp), if_pos ⟨hn, rfl⟩, meetS_yes hlk hm]
        have : toO o v (meetB x.1 y.1, y.2.1, n, ()) = true := by
          unfold toO
          simp only [Bool.and_eq_true, decide_eq_true_eq]
          exact ⟨hn, (meet_both hlk hm).2 ⟨b2, a2⟩⟩
        simp [this]
      · rw [if_neg (by simp), if_neg (fun h => hn h.1)]
        have : toO o v ((meetS x.1 y.1).1, y.2.1, n, ()) = false := by
          unfold toO
          simp [hn]
        simp [this]
    · simp
  by_cases hx : inL x.2.1 o = true
  · obtain ⟨i, hi, e⟩ := inL_iff.1 hx
    rw [flat_only (d := 0) (i := i) hi fun j hj hn => by
      rw [hF, if_neg fun h => hn (good_idx gb hj hi (h.1.trans e.symm))], hF, e]
    simp [hx]
  · have : x.2.1.flatMap (fun n => (moveF x y n).filter (toO o v)) = [] := by
      rw [List.flatMap_eq_nil_iff]
      intro n hn
      rw [hF, if_neg fun h => hx (by
        obtain ⟨q, hq, e⟩ := mem_getD 0 hn
        exact inL_iff.2 ⟨q, hq, e.trans h.1⟩)]
    rw [this, if_neg (fun h => hx h.1)]
end Good
end Go.PL
