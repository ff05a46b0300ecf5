import Derived.Test.YtdeleoaeegmhlaaMYo0
namespace Go.PL
open Go.AM
set_option linter.unusedVariables false
/-! ### Route, plain -/
def keyOf (mm : List (Int × Int)) (i : Int) : Int := (mget mm i).getD 0
def sgnI (a b : Int) : Int := if a < b then -1 else if b < a then 1 else 0
def cmpK (mm : List (Int × Int)) (i k : Int) : Int := if sgnI (keyOf mm i) (keyOf mm k) ≠ 0 then sgnI (keyOf mm i) (keyOf mm k) else sgnI i k
/-- Before, or the same. -/
def leK (mm : List (Int × Int)) (i k : Int) : Bool := decide (keyOf mm i < keyOf mm k) || (decide (keyOf mm i = keyOf mm k) && decide (i ≤ k))
def insK (le : Int → Int → Bool) (x : Int) : List Int → List Int
  | [] => [x]
  | y :: l => if le x y then x :: y :: l else y :: insK le x l
def isortK (le : Int → Int → Bool) : List Int → List Int
  | [] => []
  | x :: l => insK le x (isortK le l)
def sortK (mm : List (Int × Int)) (xs : List Int) : List Int := isortK (leK mm) xs
theorem leK_iff {mm : List (Int × Int)} {i k : Int} : leK mm i k = true ↔ keyOf mm i < keyOf mm k ∨ (keyOf mm i = keyOf mm k ∧ i ≤ k) := by
  unfold leK; simp only [Bool.or_eq_true, Bool.and_eq_true, decide_eq_true_eq]
theorem leK_total (mm : List (Int × Int)) (i k : Int) : leK mm i k = true ∨ leK mm k i = true := by
  rw [leK_iff, leK_iff]; omega
theorem leK_trans {mm : List (Int × Int)} {i k n : Int} (h : leK mm i k = true) (h' : leK mm k n = true) : leK mm i n = true := by
  rw [leK_iff] at *; omega
theorem leK_anti {mm : List (Int × Int)} {i k : Int} (h : leK mm i k = true) (h' : leK mm k i = true) : i = k := by
  rw [leK_iff] at *; omega
theorem insK_perm (le : Int → Int → Bool) (x : Int) : ∀ l, (insK le x l).Perm (x :: l)
  | [] => List.Perm.refl _
  | y :: l => by
    unfold insK
    split
    · exact List.Perm.refl _
    · exact ((insK_perm le x l).cons y).trans (List.Perm.swap x y l)
theorem isortK_perm (le : Int → Int → Bool) : ∀ l, (isortK le l).Perm l
  | [] => List.Perm.refl _
  | x :: l => (insK_perm le x _).trans ((isortK_perm le l).cons x)
theorem insK_sorted (mm : List (Int × Int)) (x : Int) : ∀ l, l.Pairwise (fun a b => leK mm a b = true) → (insK (leK mm) x l).Pairwise (fun a b => leK mm a b = true)
  | [], h => List.pairwise_singleton _ _
  | y :: l, h => by
    obtain ⟨h1, h2⟩ := List.pairwise_cons.1 h
    unfold insK
    split
    · rename_i hx
      refine List.pairwise_cons.2 ⟨fun z hz => ?_, h⟩
      rcases List.mem_cons.1 hz with e | hz
      · rw [e]; exact hx
      · exact leK_trans hx (h1 z hz)
    · rename_i hx
      refine List.pairwise_cons.2 ⟨fun z hz => ?_, insK_sorted mm x l h2⟩
      rcases List.mem_cons.1 ((insK_perm (leK mm) x l).mem_iff.1 hz) with e | hz
      · rw [e]; exact (leK_total mm x y).resolve_left hx
      · exact h1 z hz
theorem sortK_sorted (mm : List (Int × Int)) : ∀ l, (sortK mm l).Pairwise (fun a b => leK mm a b = true)
  | [] => List.Pairwise.nil
  | x :: l => insK_sorted mm x _ (sortK_sorted mm l)
theorem sortK_perm (mm : List (Int × Int)) (l : List Int) : (sortK mm l).Perm l := isortK_perm _ l
theorem sorted_uniq (mm : List (Int × Int)) : ∀ {a b : List Int}, a.Perm b → a.Pairwise (fun a b => leK mm a b = true) → b.Pairwise (fun a b => leK mm a b = true) → a = b
  | [], b, h, _, _ => (List.nil_perm.1 h).symm
  | x :: a, [], h, _, _ => absurd (List.perm_nil.1 h) (by simp)
  | x :: a, y :: b, h, h1, h2 => by
    obtain ⟨p1, p2⟩ := List.pairwise_cons.1 h1
    obtain ⟨q1, q2⟩ := List.pairwise_cons.1 h2
    have e : x = y := by
      have hx : x ∈ y :: b := h.mem_iff.1 List.mem_cons_self
      have hy : y ∈ x :: a := h.mem_iff.2 List.mem_cons_self
      rcases List.mem_cons.1 hx with e | hx
      · exact e
      · rcases List.mem_cons.1 hy with e | hy
        · exact e.symm
        · exact leK_anti (p1 y hy) (q1 x hx)
    subst e
    rw [sorted_uniq mm (List.Perm.cons_inv h) p2 q2]
/-- One region. -/
def rStep (m : Int) (v : List Int) (w : Int) (s : List Int × List (Int × Int)) (i : Int) (a : Ar) : List Int × List (Int × Int) :=
  if decide ((nearS m a.1 v).2 = 0) && decide ((nearS m a.1 v).1 ≤ w) then (s.1 ++ [i], mput s.2 i (nearS m a.1 v).1) else s
def rRun (l : List Ar) (m : Int) (v : List Int) (w : Int) : Nat → List Int × List (Int × Int)
  | 0 => ([], [])
  | n + 1 => rStep m v w (rRun l m v w n) n (l.getD n dAr)
def routeL (l : List Ar) (m : Int) (v : List Int) (w : Int) : List Int := sortK (rRun l m v w l.length).2 (rRun l m v w l.length).1
def routeN (n : Nat) (d : Dv) (m : Int) (v : List Int) (w : Int) : List Int := routeL (areasN n d) m v w
theorem rRun_len (l : List Ar) (m : Int) (v : List Int) (w : Int) : ∀ n, (rRun l m v w n).1.length ≤ n
  | 0 => Nat.le_refl _
  | n + 1 => by
    have := rRun_len l m v w n
    unfold rRun rStep
    split
    · simp only [List.length_append, List.length_cons, List.length_nil]; omega
    · omega
theorem mget_mput (n : Int) (x : Int) (k : Int) : ∀ m : List (Int × Int), mget (mput m n x) k = if k = n then some x else mget m k
  | [] => by
    simp only [mput, mget]
    by_cases h : n = k
    · rw [if_pos h, if_pos h.symm]
    · rw [if_neg h, if_neg (fun e => h e.symm)]
  | p :: m => by
    simp only [mput]
    by_cases hp : p.1 = n
    · rw [if_pos hp]
      simp only [mget]
      by_cases h : n = k
      · rw [if_pos h, if_pos h.symm]
      · rw [if_neg h, if_neg (fun e => h e.symm), if_neg (fun e => h (hp.symm.trans e))]
    · rw [if_neg hp]
      simp only [mget]
      by_cases hk : p.1 = k
      · rw [if_pos hk, if_pos hk, if_neg (fun e => hp (hk.trans e))]
      · rw [if_neg hk, if_neg hk]
        exact mget_mput n x k m
/-- What Route runs through. -/
theorem rRun_spec (l : List Ar) (m : Int) (v : List Int) (w : Int) : ∀ n : Nat,
    (∀ i : Int, i ∈ (rRun l m v w n).1 ↔ 0 ≤ i ∧ i < n ∧ (nearS m (l.getD i.toNat dAr).1 v).2 = 0 ∧ (nearS m (l.getD i.toNat dAr).1 v).1 ≤ w) ∧ (rRun l m v w n).1.Nodup ∧
    ∀ i ∈ (rRun l m v w n).1, keyOf (rRun l m v w n).2 i = (nearS m (l.getD i.toNat dAr).1 v).1
  | 0 => ⟨fun i => ⟨fun h => by simp [rRun] at h, fun h => by omega⟩, List.nodup_nil, fun i h => by simp [rRun] at h⟩
  | n + 1 => by
    obtain ⟨h1, h2, h3⟩ := rRun_spec l m v w n
    have es : rRun l m v w (n + 1) = rStep m v w (rRun l m v w n) n (l.getD n dAr) := rfl
    rw [es]
    unfold rStep
    split
    · rename_i hc
      simp only [Bool.and_eq_true, decide_eq_true_eq] at hc
      have hn : ((n : Nat) : Int) ∉ (rRun l m v w n).1 := fun h => by have := (h1 _).1 h; omega
      refine ⟨fun i => ?_, ?_, fun i hi => ?_⟩
      · rw [List.mem_append, List.mem_singleton, h1]
        constructor
        · rintro (⟨a, b, c⟩ | rfl)
          · exact ⟨a, by omega, c⟩
          · exact ⟨by omega, by omega, hc⟩
        · rintro ⟨a, b, c⟩
          rcases Decidable.em (i = n) with e | e
          · exact .inr e
          · exact .inl ⟨a, by omega, c⟩
      · refine List.nodup_append.2 ⟨h2, by simp, fun a ha b hb e => ?_⟩
        rw [List.mem_singleton] at hb
        subst e hb
        exact hn ha
      · unfold keyOf
        rw [mget_mput]
        rcases List.mem_append.1 hi with hi | hi
        · rw [if_neg (fun e => hn (by rw [← e]; exact hi))]
          exact h3 i hi
        · rw [List.mem_singleton] at hi
          subst hi
          rw [if_pos rfl]
          rfl
    · rename_i hc
      simp only [Bool.and_eq_true, decide_eq_true_eq] at hc
      refine ⟨fun i => ?_, h2, h3⟩
      rw [h1]
      constructor
      · rintro ⟨a, b, c⟩; exact ⟨a, by omega, c⟩
      · rintro ⟨a, b, c⟩
        refine ⟨a, ?_, c⟩
        rcases Decidable.em (i = n) with e | e
        · subst e; exact absurd c hc
        · omega
end Go.PL
