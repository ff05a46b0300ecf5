import Derived.Test.YtdnofflnfchcbaaXn
namespace Go.PL
open Go.AM
set_option linter.unusedVariables false
theorem getD_set {v : List Int} {i : Nat} (h : i < v.length) (x : Int) (j : Nat) : (v.set i x).getD j 0 = if j = i then x else v.getD j 0 := by
  rw [List.getD_eq_getElem?_getD, List.getD_eq_getElem?_getD]
  by_cases e : j = i
  · subst e
    rw [List.getElem?_set_self h, if_pos rfl]
    rfl
  · rw [List.getElem?_set_ne (Ne.symm e), if_neg e]
abbrev cutX (b : Box) (s : Nat) (y : Int) : Box := (b.1, b.2.1.set s y, ())
abbrev cutY (b : Box) (s : Nat) (y : Int) : Box := (b.1.set s (y + 1), b.2.1, ())
/-- Both parts, by places. -/
theorem cut_parts {b : Box} {x y : Int} (h : cutOk b x y = true) : x.toNat < b.1.length ∧ bval (cutX b x.toNat y) = true ∧ bval (cutY b x.toNat y) = true ∧ (cutX b x.toNat y).2.1.length = b.1.length ∧ (cutY b x.toNat y).1.length = b.1.length ∧
    (∀ i, (cutX b x.toNat y).2.1.getD i 0 = if i = x.toNat then y else b.2.1.getD i 0) ∧ (∀ i, (cutY b x.toNat y).1.getD i 0 = if i = x.toNat then y + 1 else b.1.getD i 0) := by
  obtain ⟨hb, h1, h2, h3, h4⟩ := cutOk_iff.1 h
  have l := bval_len hb
  have e1 : ∀ i, (cutX b x.toNat y).2.1.getD i 0 = if i = x.toNat then y else b.2.1.getD i 0 := fun i => getD_set (by omega) _ _
  have e2 : ∀ i, (cutY b x.toNat y).1.getD i 0 = if i = x.toNat then y + 1 else b.1.getD i 0 := fun i => getD_set (by omega) _ _
  have l1 : (cutX b x.toNat y).2.1.length = b.1.length := by show (b.2.1.set _ _).length = _; rw [List.length_set]; omega
  have l2 : (cutY b x.toNat y).1.length = b.1.length := by show (b.1.set _ _).length = _; rw [List.length_set]
  obtain ⟨b1, b2, b3, b4⟩ := bval_iff.1 hb
  refine ⟨by omega, bval_iff.2 ⟨b1, bvec_iff.2 ⟨fun i hi => ?_, by omega, by omega⟩, by rw [l1], fun i hi => ?_⟩, bval_iff.2 ⟨bvec_iff.2 ⟨fun i hi => ?_, by omega, by omega⟩, b2, by rw [l2]; omega, fun i hi => ?_⟩, l1, l2, e1, e2⟩
  · rw [e1]; have := bval_at hb i; have := bval_at hb x.toNat; split <;> omega
  · rw [e1]; have := bval_at hb i; split
    · rename_i e; subst e; exact h3
    · show b.1.getD i 0 ≤ b.2.1.getD i 0; omega
  · rw [e2]; have := bval_at hb i; have := bval_at hb x.toNat; split <;> omega
  · rw [e2]; have := bval_at hb i; split
    · rename_i e; subst e; show y + 1 ≤ b.2.1.getD x.toNat 0; omega
    · show b.1.getD i 0 ≤ b.2.1.getD i 0; omega
/-- A vector of the box is in one of both parts. -/
theorem cut_has {b : Box} {x y : Int} {p : List Int} (h : cutOk b x y = true) (hp : bhas b p = true) : bhas (cutX b x.toNat y) p = decide (p.getD x.toNat 0 ≤ y) ∧ bhas (cutY b x.toNat y) p = decide (y < p.getD x.toNat 0) := by
  obtain ⟨h0, v1, v2, l1, l2, e1, e2⟩ := cut_parts h
  obtain ⟨hb, hl, hx⟩ := bhas_iff.1 hp
  constructor
  · refine (dec_is ?_).symm
    rw [bhas_iff]
    constructor
    · intro q
      refine ⟨v1, hl, fun i hi => ?_⟩
      have := hx i hi
      rw [e1]
      refine ⟨this.1, ?_⟩
      split
      · rename_i e; subst e; exact q
      · exact this.2
    · rintro ⟨_, _, q⟩
      have := (q x.toNat (by omega)).2
      rw [e1, if_pos rfl] at this
      exact this
  · refine (dec_is ?_).symm
    rw [bhas_iff]
    constructor
    · intro q
      refine ⟨v2, by rw [l2]; exact hl, fun i hi => ?_⟩
      have := hx i hi
      rw [e2]
      refine ⟨?_, this.2⟩
      split
      · rename_i e; subst e; omega
      · exact this.1
    · rintro ⟨_, _, q⟩
      have := (q x.toNat (by omega)).1
      rw [e2, if_pos rfl] at this
      omega
theorem cut_inside {b : Box} {x y : Int} (h : cutOk b x y = true) : binside (cutX b x.toNat y) b = true ∧ binside (cutY b x.toNat y) b = true := by
  obtain ⟨h0, v1, v2, l1, l2, e1, e2⟩ := cut_parts h
  obtain ⟨hb, h1, h2, h3, h4⟩ := cutOk_iff.1 h
  have l := bval_len hb
  refine ⟨binside_iff.2 ⟨v1, (inside_self hb).1, bhas_iff.2 ⟨hb, l1, fun i hi => ?_⟩⟩, binside_iff.2 ⟨v2, bhas_iff.2 ⟨hb, l2, fun i hi => ?_⟩, (inside_self hb).2⟩⟩
  · rw [e1]; have := bval_at hb i; split
    · rename_i e; subst e; omega
    · omega
  · rw [e2]; have := bval_at hb i; split
    · rename_i e; subst e; omega
    · omega
theorem cut_near {b : Box} {x y : Int} {v : List Int} (m : Int) (n : Nat) (h : cutOk b x y = true) : sumK m n (nearF b v) = min (sumK m n (nearF (cutX b x.toNat y) v)) (sumK m n (nearF (cutY b x.toNat y) v)) ∧
    sumK m n (farF b v) = max (sumK m n (farF (cutX b x.toNat y) v)) (sumK m n (farF (cutY b x.toNat y) v)) := by
  obtain ⟨h0, v1, v2, l1, l2, e1, e2⟩ := cut_parts h
  obtain ⟨hb, h1, h2, h3, h4⟩ := cutOk_iff.1 h
  have nX : ∀ i, nearF (cutX b x.toNat y) v i = if i = x.toNat then max 0 (max (b.1.getD i 0 - v.getD i 0) (v.getD i 0 - y)) else nearF b v i := fun i => by
    unfold nearF at_
    rw [e1]
    split <;> rfl
  have nY : ∀ i, nearF (cutY b x.toNat y) v i = if i = x.toNat then max 0 (max (y + 1 - v.getD i 0) (v.getD i 0 - b.2.1.getD i 0)) else nearF b v i := fun i => by
    unfold nearF at_
    rw [e2]
    split <;> rfl
  have fX : ∀ i, farF (cutX b x.toNat y) v i = if i = x.toNat then max (y - v.getD i 0) (v.getD i 0 - b.1.getD i 0) else farF b v i := fun i => by
    unfold farF at_
    rw [e1]
    split <;> rfl
  have fY : ∀ i, farF (cutY b x.toNat y) v i = if i = x.toNat then max (b.2.1.getD i 0 - v.getD i 0) (v.getD i 0 - (y + 1)) else farF b v i := fun i => by
    unfold farF at_
    rw [e2]
    split <;> rfl
  have fz : ∀ i, 0 ≤ farF b v i := fun i => by have := bval_at hb i; unfold farF at_; omega
  have nz : ∀ i, 0 ≤ nearF b v i := fun i => by unfold nearF at_; omega
  constructor
  · by_cases hv : v.getD x.toNat 0 ≤ y
    · have a1 : sumK m n (nearF b v) = sumK m n (nearF (cutX b x.toNat y) v) := sumK_ext fun i _ => by
        rw [nX]; split
        · rename_i e; subst e; unfold nearF at_; omega
        · rfl
      have a2 : sumK m n (nearF b v) ≤ sumK m n (nearF (cutY b x.toNat y) v) := sumK_mono fun i _ => by
        rw [nY]; refine ⟨nz i, ?_⟩; split
        · rename_i e; subst e; unfold nearF at_; omega
        · omega
      omega
    · have a1 : sumK m n (nearF b v) = sumK m n (nearF (cutY b x.toNat y) v) := sumK_ext fun i _ => by
        rw [nY]; split
        · rename_i e; subst e; unfold nearF at_; omega
        · rfl
      have a2 : sumK m n (nearF b v) ≤ sumK m n (nearF (cutX b x.toNat y) v) := sumK_mono fun i _ => by
        rw [nX]; refine ⟨nz i, ?_⟩; split
        · rename_i e; subst e; unfold nearF at_; omega
        · omega
      omega
  · have gX : sumK m n (farF (cutX b x.toNat y) v) ≤ sumK m n (farF b v) := sumK_mono fun i _ => by
      have := bval_at v1 i
      refine ⟨by unfold farF at_; omega, ?_⟩
      rw [fX]; split
      · rename_i e; subst e; unfold farF at_; omega
      · omega
    have gY : sumK m n (farF (cutY b x.toNat y) v) ≤ sumK m n (farF b v) := sumK_mono fun i _ => by
      have := bval_at v2 i
      refine ⟨by unfold farF at_; omega, ?_⟩
      rw [fY]; split
      · rename_i e; subst e; unfold farF at_; omega
      · omega
    by_cases hv : v.getD x.toNat 0 - b.1.getD x.toNat 0 ≤ b.2.1.getD x.toNat 0 - v.getD x.toNat 0
    · have a1 : sumK m n (farF b v) = sumK m n (farF (cutY b x.toNat y) v) := sumK_ext fun i _ => by
        rw [fY]; split
        · rename_i e; subst e; unfold farF at_; omega
        · rfl
      omega
    · have a1 : sumK m n (farF b v) = sumK m n (farF (cutX b x.toNat y) v) := sumK_ext fun i _ => by
        rw [fX]; split
        · rename_i e; subst e; unfold farF at_; omega
        · rfl
      omega
theorem cut_eq {b : Box} {x y : Int} (h : (cutS b x y).2.2 = 0) : cutOk b x y = true ∧ cutS b x y = (cutX b x.toNat y, cutY b x.toNat y, 0) := by
  have hc : cutOk b x y = true := by
    cases hc : cutOk b x y with
    | true => rfl
    | false => rw [← cutS_no fun e => (by rw [hc] at e; cases e)] at h; exact absurd h (by decide)
  exact ⟨hc, (cutS_yes hc).symm⟩
theorem split_eq {b : Box} (h : (splitS b).2.2 = 0) : ∃ s : Nat, ∃ t : Int, splitS b = ((s : Int), t, 0) ∧ cutOk b s t = true ∧ t = b.1.getD s 0 + (b.2.1.getD s 0 - b.1.getD s 0) / 2 := by
  have hb : bval b = true := by
    cases hc : bval b with
    | true => rfl
    | false => rw [← splitS_no fun e => (by rw [hc] at e; cases e)] at h; exact absurd h (by decide)
  have ys := splitS_yes hb
  have l := bval_len hb
  have a1 := (amax_spec (widthF b) b.1.length (by omega)).1
  have k := bval_at hb (amax b.1.length (widthF b))
  have hw : widthF b (amax b.1.length (widthF b)) = b.2.1.getD (amax b.1.length (widthF b)) 0 - b.1.getD (amax b.1.length (widthF b)) 0 := rfl
  generalize amax b.1.length (widthF b) = s at *
  by_cases hz : widthF b s = 0
  · rw [ys, if_pos hz] at h
    exact absurd h (by decide)
  · rw [if_neg hz] at ys
    refine ⟨s, _, ys, cutOk_iff.2 ⟨hb, by omega, by omega, ?_, ?_⟩, by rw [hw]⟩ <;> rw [Int.toNat_natCast] <;> omega
end Go.PL
