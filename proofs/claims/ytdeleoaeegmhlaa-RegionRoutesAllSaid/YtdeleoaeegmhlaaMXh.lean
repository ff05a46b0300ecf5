import Derived.Test.YtdeleoaeegmhlaaMX3
--@drop
namespace Go.PL
open Go.AM
set_option linter.unusedVariables false
theorem rOf_no {l : List (List Int)} (h : ofOk l = true → False) : ((([], [], ()), false, (1 : Int), ()) : Box × Bool × Int × Unit) = ((ofS l).fst, ofOk l, (ofS l).snd, ()) := by
  rw [← ofS_no h, ← is_no h]
theorem tl_eq (l : List (List Int)) : List.take (l.length - 1) (List.drop 1 l) = List.drop 1 l := List.take_of_length_le (by simp)
theorem tl_getD (l : List (List Int)) (i : Nat) : (List.drop 1 l).getD i [] = l.getD (i + 1) [] := by
  rw [List.getD_eq_getElem?_getD, List.getD_eq_getElem?_getD, List.getElem?_drop, Nat.add_comm]
theorem row_tab (l : List (List Int)) : l.getD 0 [] = tab (l.getD 0 []).length (mnK l 1) ∧ l.getD 0 [] = tab (l.getD 0 []).length (mxK l 1) :=
  ⟨list_ext (tab_length _ _).symm fun i hi => by rw [tab_getD _ hi, mnK_succ, mnK_zero]; omega, list_ext (tab_length _ _).symm fun i hi => by rw [tab_getD _ hi, mxK_succ, mxK_zero]; omega⟩
theorem of4 {a b : Box} (h : balike a b = true) : ofOk [a.1, a.2.1, b.1, b.2.1] = true ∧ ofS [a.1, a.2.1, b.1, b.2.1] = (joinB a b, 0) := by
  obtain ⟨ha, hb, hl⟩ := balike_iff.1 h
  have la := bval_len ha
  have lb := bval_len hb
  have hok : ofOk [a.1, a.2.1, b.1, b.2.1] = true := by
    rw [ofOk_iff]
    refine ⟨by simp, fun i hi => ?_⟩
    match i, hi with
    | 0, _ => exact ⟨(bval_iff.1 ha).1, rfl⟩
    | 1, _ => exact ⟨(bval_iff.1 ha).2.1, la.2.2⟩
    | 2, _ => exact ⟨(bval_iff.1 hb).1, hl.symm⟩
    | 3, _ => exact ⟨(bval_iff.1 hb).2.1, by show b.2.1.length = a.1.length; omega⟩
  refine ⟨hok, ?_⟩
  rw [ofS_yes hok]
  have e1 : tab a.1.length (mnK [a.1, a.2.1, b.1, b.2.1] 4) = tab a.1.length fun i => min (at_ a.1 i) (at_ b.1 i) := tab_ext rfl fun i hi => by
    rw [mnK_succ, mnK_succ, mnK_succ, mnK_succ, mnK_zero]
    show min (min (min (min (a.1.getD i 0) (a.1.getD i 0)) (a.2.1.getD i 0)) (b.1.getD i 0)) (b.2.1.getD i 0) = min (a.1.getD i 0) (b.1.getD i 0)
    have := bval_at ha i
    have := bval_at hb i
    omega
  have e2 : tab a.1.length (mxK [a.1, a.2.1, b.1, b.2.1] 4) = tab a.2.1.length fun i => max (at_ a.2.1 i) (at_ b.2.1 i) := tab_ext la.2.2.symm fun i hi => by
    rw [mxK_succ, mxK_succ, mxK_succ, mxK_succ, mxK_zero]
    show max (max (max (max (a.1.getD i 0) (a.1.getD i 0)) (a.2.1.getD i 0)) (b.1.getD i 0)) (b.2.1.getD i 0) = max (a.2.1.getD i 0) (b.2.1.getD i 0)
    have := bval_at ha i
    have := bval_at hb i
    omega
  show ((tab a.1.length (mnK [a.1, a.2.1, b.1, b.2.1] 4), tab a.1.length (mxK [a.1, a.2.1, b.1, b.2.1] 4), ()), (0 : Int)) = (joinB a b, 0)
  rw [e1, e2]
  rfl
theorem key_near {b : Box} {v : List Int} (hb : bval b = true) (i : Nat) (hi : i < v.length) : keyF (nearestS b v) v i = nearF b v i := by
  have e : at_ (nearestS b v) i = min (max (at_ v i) (at_ b.1 i)) (at_ b.2.1 i) := tab_getD _ hi
  unfold keyF
  rw [e]
  have := bval_at hb i
  unfold nearF at_
  omega
theorem key_far {b : Box} {v : List Int} (hb : bval b = true) (i : Nat) (hi : i < v.length) : keyF (farthestS b v) v i = farF b v i := by
  have e : at_ (farthestS b v) i = if at_ v i - at_ b.1 i < at_ b.2.1 i - at_ v i then at_ b.2.1 i else at_ b.1 i := tab_getD _ hi
  unfold keyF
  rw [e]
  have := bval_at hb i
  unfold farF at_
  split <;> omega
theorem key_apart {a b : Box} (n : Nat) (ha : bval a = true) (hb : bval b = true) (i : Nat) (hi : i < n) : keyF (tab n (apartF a b)) (tab n fun _ => 0) i = apartF a b i := by
  have e : at_ (tab n (apartF a b)) i = apartF a b i := tab_getD _ hi
  have e' : at_ (tab n fun _ => 0) i = 0 := tab_getD _ hi
  unfold keyF
  rw [e, e']
  have := apart_le ha hb i
  omega
theorem nearest_sm {b : Box} {v : List Int} (hb : bval b = true) (hv : bvec v = true) : sm (nearestS b v) :=
  tab_sm (by have := bvec_len hv; omega) fun i => by have := bval_at hb i; have := bvec_at hv i; unfold at_; omega
theorem farthest_sm {b : Box} {v : List Int} (hb : bval b = true) (hv : bvec v = true) : sm (farthestS b v) :=
  tab_sm (by have := bvec_len hv; omega) fun i => by have := bval_at hb i; have := bvec_at hv i; unfold at_; split <;> omega
theorem apart_sm {a b : Box} {n : Nat} (hn : n ≤ 64) (ha : bval a = true) (hb : bval b = true) : sm (tab n (apartF a b)) :=
  tab_sm hn fun i => by have := bval_at ha i; have := bval_at hb i; unfold apartF at_; omega
theorem fewB_iff {b : Box} : fewB b = true ↔ b.1.length ≤ 40 ∧ b.2.1.length ≤ 40 := by
  unfold fewB
  simp only [Bool.and_eq_true, decide_eq_true_eq]
theorem shortB_iff {l : List (List Int)} : shortB l = true ↔ (∀ i, i < l.length → (l.getD i []).length ≤ 40) ∧ l.length ≤ 20 := by
  unfold shortB row
  simp only [Bool.and_eq_true, upto_iff, decide_eq_true_eq]
end Go.PL
namespace Go.Proofs.Ytdeleoaeegmhlaa
open Go.AM Go.PL
set_option linter.unusedVariables false
end Go.Proofs.Ytdeleoaeegmhlaa
