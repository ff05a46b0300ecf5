import Derived.Test.YtmimchmdikjilaaOg
import Derived.Test.YtmimchmdikjilaaHr
namespace Go.Proofs.Ytmimchmdikjilaa
open Go.AM Go.PL
set_option linter.unusedVariables false
/-! ### Plain facts for the laws -/
structure VP (p : Piece) (k : Int) : Prop where
  v : IsV p.1 k
  ok : ∀ x ∈ p.2.1, okR x = true
  asc : ascL p.2.1
theorem asc_of {l : List Rst} (h : sortedL l = true) : ascL l := by
  unfold ascL
  rw [List.pairwise_iff_getElem]
  intro i j hi hj hij
  have key : ∀ d, ∀ j (hj : j < l.length), j = i + 1 + d → ltQ l[j] l[i] = false := by
    intro d
    induction d with
    | zero =>
      intro j hj e
      have := (sortedL_iff.1 h j hj).resolve_left (by omega)
      rw [getR l hj, getR l (by omega)] at this
      have e2 : j - 1 = i := by omega
      simpa only [e2] using this
    | succ d ih =>
      intro j hj e
      have h1 := ih (j - 1) (by omega) (by omega)
      have h2 := (sortedL_iff.1 h j hj).resolve_left (by omega)
      rw [getR l hj, getR l (by omega)] at h2
      exact swoR.ntrans _ _ _ h2 h1
  exact key (j - i - 1) j hj (by omega)
theorem sorted_of {l : List Rst} (h : ascL l) : sortedL l = true := sortedL_iff.2 fun j hj => by
  by_cases e : j = 0
  · exact .inl e
  · refine .inr ?_
    rw [getR l hj, getR l (by omega)]
    exact List.pairwise_iff_getElem.1 h (j - 1) j (by omega) hj (by omega)
theorem vp_of {p : Piece} {k : Int} (h : validP p k = true) : VP p k := by
  unfold validP at h
  simp only [Bool.and_eq_true, decide_eq_true_eq] at h
  obtain ⟨h1, h2, h3, h4⟩ := h
  refine ⟨isV_of h1, fun x hx => ?_, asc_of h4⟩
  obtain ⟨i, hi, rfl⟩ := List.getElem_of_mem hx
  have := okL_iff.1 h3 i hi
  rwa [getR _ hi] at this
theorem VP.valid {p : Piece} {k : Int} (h : VP p k) (hl : p.2.1.length ≤ 65536) : validP p k = true :=
  (validP_yes (valid_of h.v) (by omega) (okL_iff.2 fun j hj => by rw [getR _ hj]; exact h.ok _ (List.getElem_mem hj)) (sorted_of h.asc)).symm
theorem few_of {p : Piece} (h : fewP p = true) : p.1.length ≤ 70 ∧ p.2.1.length ≤ 60 := by
  unfold fewP at h
  simp only [Bool.and_eq_true, decide_eq_true_eq] at h
  omega
theorem VP.small {p : Piece} {k : Int} (h : VP p k) (hl : p.2.1.length ≤ 1000) : smallP p := by
  have := h.v.len
  have := h.v.k2
  exact ⟨by omega, hl, fun x hx => by have := (okR_iff x).1 (h.ok x hx); omega⟩
theorem VP.bounds {p : Piece} {k : Int} (h : VP p k) : boundsL p.2.1 := fun x hx => by have := (okR_iff x).1 (h.ok x hx); omega
theorem key_le' {a b : Hit} (h : ltH a b = true) : a.2.2.1 ≤ b.2.2.1 := by
  have := (ltH_eq a b).1 h
  omega
theorem VP.order {p : Piece} {k : Int} (h : VP p k) : orderP p := ⟨h.v.sorted.imp fun hab => key_le' hab, List.Pairwise.imp (fun {a b} hab => by have := (ltR_no b a).1 hab; omega) h.asc⟩
/-! the sure ones are the first ones -/
theorem sureN_mono (p : Piece) (k : Int) {n m : Nat} (h : n ≤ m) : sureN p k n ≤ sureN p k m := by
  induction m with
  | zero => rw [show n = 0 by omega]; exact Int.le_refl _
  | succ m ih =>
    by_cases e : n = m + 1
    · rw [e]; exact Int.le_refl _
    · have := ih (by omega)
      rw [sureN_succ]
      split <;> omega
theorem sureN_all (p : Piece) (k : Int) : ∀ n, (∀ i, i < n → sureAt p k i = true) → sureN p k n = n
  | 0, _ => rfl
  | n + 1, h => by rw [sureN_succ, sureN_all p k n fun i hi => h i (by omega), if_pos (h n (by omega))]; omega
theorem sure_lt {p : Piece} (hs : smallP p) (ho : orderP p) {k : Int} {i : Nat} (hi : i < p.1.length) : (i : Int) < sureP p k ↔ sureAt p k i = true := by
  constructor
  · intro h
    cases hc : sureAt p k i
    · have := sureP_stop hs ho k hi hc
      have := (sureN_le p k i).2
      omega
    · rfl
  · intro h
    have hall : ∀ j, j < i + 1 → sureAt p k j = true := fun j hj => by
      cases hc : sureAt p k j
      · rw [sureAt_mono hs ho k (show j ≤ i by omega) hi hc] at h; cases h
      · rfl
    have h1 := sureN_all p k (i + 1) hall
    have h2 := sureN_mono p k (show i + 1 ≤ p.1.length by omega)
    unfold sureP
    omega
theorem sureP_le (p : Piece) (k : Int) : 0 ≤ sureP p k ∧ sureP p k ≤ p.1.length := sureN_le p k _
theorem sureAt_iff {p : Piece} {k : Int} {i : Nat} : sureAt p k i = true ↔ (i : Int) + 1 + underR p.2.1 (p.1.getD i hit0).2.2.1 ≤ k := by
  unfold sureAt
  rw [decide_eq_true_eq]
end Go.Proofs.Ytmimchmdikjilaa
