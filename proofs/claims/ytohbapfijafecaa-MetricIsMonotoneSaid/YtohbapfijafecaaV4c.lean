import Derived.Test.YtohbapfijafecaaV4b
namespace Go.Proofs.Ytohbapfijafecaa
open Go.AM Go.PL
set_option linter.unusedVariables false

/-! ### Norms, plain -/
def n1 : List Int → Int
  | [] => 0
  | x :: v => sizeS x + n1 v
def n2 : List Int → Int
  | [] => 0
  | x :: v => x * x + n2 v
def n3 : List Int → Int
  | [] => 0
  | x :: v => max (sizeS x) (n3 v)
def dotS : List Int → List Int → Int
  | x :: u, y :: v => x * y + dotS u v
  | _, _ => 0

theorem n1_nonneg : ∀ v, 0 ≤ n1 v
  | [] => by simp [n1]
  | x :: v => by have := n1_nonneg v; unfold n1 sizeS; omega
theorem n2_nonneg : ∀ v, 0 ≤ n2 v
  | [] => by simp [n2]
  | x :: v => by
    have := n2_nonneg v
    have h := (sq_size (c := sizeS x) (x := x) (by unfold sizeS; omega)).1
    unfold n2; omega
theorem n3_nonneg : ∀ v, 0 ≤ n3 v
  | [] => by simp [n3]
  | x :: v => by have := n3_nonneg v; unfold n3 sizeS; omega

theorem normFrom_1 : ∀ (v : List Int) (n : Int), normFrom 1 n v = n + n1 v
  | [], n => by simp [normFrom, n1]
  | x :: v, n => by
    have := normFrom_1 v (normStep 1 n x)
    simp only [normFrom, List.foldl_cons] at this ⊢
    rw [this]
    simp only [normStep, if_true, n1]
    omega
theorem normFrom_2 : ∀ (v : List Int) (n : Int), normFrom 2 n v = n + n2 v
  | [], n => by simp [normFrom, n2]
  | x :: v, n => by
    have := normFrom_2 v (normStep 2 n x)
    simp only [normFrom, List.foldl_cons] at this ⊢
    rw [this]
    simp only [normStep, n2]
    rw [if_neg (by decide), if_pos trivial]
    omega
theorem normFrom_3 {m : Int} (h1 : m ≠ 1) (h2 : m ≠ 2) : ∀ (v : List Int) (n : Int), 0 ≤ n → normFrom m n v = max n (n3 v)
  | [], n, h => by simp [normFrom, n3]; omega
  | x :: v, n, h => by
    have := normFrom_3 h1 h2 v (normStep m n x) (by unfold normStep sizeS; rw [if_neg h1, if_neg h2]; omega)
    simp only [normFrom, List.foldl_cons] at this ⊢
    rw [this]
    simp only [normStep, n3]
    rw [if_neg h1, if_neg h2]
    omega

theorem normS_eq (m : Int) (v : List Int) : normS m v = if m = 1 then n1 v else if m = 2 then n2 v else n3 v := by
  unfold normS
  split
  · rename_i h; subst h; rw [normFrom_1]; omega
  · rename_i h
    split
    · rename_i h2; subst h2; rw [normFrom_2]; omega
    · rename_i h2; rw [normFrom_3 h h2 _ _ (by omega)]; have := n3_nonneg v; omega

theorem n_comm : ∀ (a b : List Int), n1 (subS a b) = n1 (subS b a) ∧ n2 (subS a b) = n2 (subS b a) ∧ n3 (subS a b) = n3 (subS b a)
  | [], [] => ⟨rfl, rfl, rfl⟩
  | [], _ :: _ => ⟨rfl, rfl, rfl⟩
  | _ :: _, [] => ⟨rfl, rfl, rfl⟩
  | x :: a, y :: b => by
    obtain ⟨h1, h2, h3⟩ := n_comm a b
    have e : (x - y) * (x - y) = (y - x) * (y - x) := by rw [← Int.neg_sub y x, Int.neg_mul_neg]
    have e' : sizeS (x - y) = sizeS (y - x) := by unfold sizeS; omega
    simp only [subS, n1, n2, n3, h1, h2, h3, e, e', and_self]

theorem keyS_comm (m : Int) (a b : List Int) : keyS m a b = keyS m b a := by
  unfold keyS
  rw [normS_eq, normS_eq]
  obtain ⟨h1, h2, h3⟩ := n_comm a b
  rw [h1, h2, h3]

theorem n1_tri : ∀ (p q r : List Int), p.length = q.length → q.length = r.length → n1 (subS p r) ≤ n1 (subS p q) + n1 (subS q r)
  | [], q, r, _, _ => by simp only [subS, n1]; have := n1_nonneg (subS q r); omega
  | x :: p, y :: q, z :: r, h, h' => by
    have := n1_tri p q r (by simpa using h) (by simpa using h')
    simp only [subS, n1, sizeS]
    omega
  | _ :: _, [], _, h, _ => by simp at h
  | _ :: _, _ :: _, [], _, h => by simp at h
theorem n3_tri : ∀ (p q r : List Int), p.length = q.length → q.length = r.length → n3 (subS p r) ≤ n3 (subS p q) + n3 (subS q r)
  | [], q, r, _, _ => by simp only [subS, n3]; have := n3_nonneg (subS q r); omega
  | x :: p, y :: q, z :: r, h, h' => by
    have := n3_tri p q r (by simpa using h) (by simpa using h')
    simp only [subS, n3, sizeS]
    omega
  | _ :: _, [], _, h, _ => by simp at h
  | _ :: _, _ :: _, [], _, h => by simp at h

theorem n2_split : ∀ (p q r : List Int), p.length = q.length → q.length = r.length → n2 (subS p r) = n2 (subS p q) + n2 (subS q r) + 2 * dotS (subS p q) (subS q r)
  | [], [], _, _, h => by cases ‹List Int› <;> simp_all [subS, n2, dotS]
  | x :: p, y :: q, z :: r, h, h' => by
    have := n2_split p q r (by simpa using h) (by simpa using h')
    simp only [subS, n2, dotS]
    have e : (x - z) * (x - z) = (x - y) * (x - y) + (y - z) * (y - z) + 2 * ((x - y) * (y - z)) := by
      have h1 : x - z = (x - y) + (y - z) := by omega
      rw [h1]
      generalize x - y = s
      generalize y - z = t
      simp only [Int.add_mul, Int.mul_add, Int.mul_comm t s]
      omega
    omega
  | [], _ :: _, _, h, _ => by simp at h
  | _ :: _, [], _, h, _ => by simp at h
  | _ :: _, _ :: _, [], _, h => by simp at h

theorem sq_nonneg (x : Int) : 0 ≤ x * x := by
  rcases Int.le_total 0 x with h' | h'
  · exact Int.mul_nonneg h' h'
  · exact Int.mul_nonneg_of_nonpos_of_nonpos h' h'

theorem abs_sq_le {x y : Int} (hy : 0 ≤ y) (h : x * x ≤ y * y) : -y ≤ x ∧ x ≤ y := by
  have key : ∀ z : Int, z * z ≤ y * y → z ≤ y := by
    intro z hz
    rcases Int.lt_or_le y z with h' | h'
    · have : (y + 1) * (y + 1) ≤ z * z := Int.mul_le_mul (by omega) (by omega) (by omega) (by omega)
      have e : (y + 1) * (y + 1) = y * y + 2 * y + 1 := by simp only [Int.add_mul, Int.mul_add]; omega
      omega
    · exact h'
  refine ⟨?_, key x h⟩
  have := key (-x) (by rw [Int.neg_mul_neg]; exact h)
  omega

/-- The inequality of Cauchy and Schwarz. -/
theorem cauchy : ∀ (u v : List Int), dotS u v * dotS u v ≤ n2 u * n2 v
  | [], v => by simp [dotS, n2]
  | _ :: _, [] => by simp [dotS, n2]
  | x :: u, y :: v => by
    have ih := cauchy u v
    have hA := n2_nonneg u
    have hB := n2_nonneg v
    simp only [dotS, n2]
    generalize dotS u v = s at *
    generalize n2 u = A at *
    generalize n2 v = B at *
    -- 2 s x y ≤ A y y + B x x
    have hAy : 0 ≤ A * (y * y) := Int.mul_nonneg hA (sq_nonneg y)
    have hBx : 0 ≤ B * (x * x) := Int.mul_nonneg hB (sq_nonneg x)
    have h1 : (2 * (s * (x * y))) * (2 * (s * (x * y))) ≤ (A * (y * y) + B * (x * x)) * (A * (y * y) + B * (x * x)) := by
      have e1 : (2 * (s * (x * y))) * (2 * (s * (x * y))) = 4 * ((s * s) * ((x * y) * (x * y))) := by
        generalize x * y = z
        rw [Int.mul_assoc, Int.mul_left_comm (s * z) 2, ← Int.mul_assoc 2 2]
        rw [Int.mul_assoc s z, Int.mul_left_comm z s z, ← Int.mul_assoc s s]
        rfl
      have e2 : (A * (y * y)) * (B * (x * x)) = (A * B) * ((x * y) * (x * y)) := by
        rw [Int.mul_assoc, Int.mul_left_comm (y * y) B, ← Int.mul_assoc A B]
        congr 1
        rw [Int.mul_comm (y * y), Int.mul_assoc, Int.mul_left_comm x y y, Int.mul_assoc, Int.mul_left_comm y x y]
      have h2 : (s * s) * ((x * y) * (x * y)) ≤ (A * B) * ((x * y) * (x * y)) := Int.mul_le_mul_of_nonneg_right ih (sq_nonneg _)
      have h3 : 4 * ((A * (y * y)) * (B * (x * x))) ≤ (A * (y * y) + B * (x * x)) * (A * (y * y) + B * (x * x)) := by
        generalize A * (y * y) = p
        generalize B * (x * x) = q
        have := sq_nonneg (p - q)
        have e : (p + q) * (p + q) = (p - q) * (p - q) + 4 * (p * q) := by
          simp only [Int.add_mul, Int.mul_add, Int.sub_mul, Int.mul_sub, Int.mul_comm q p]
          omega
        omega
      omega
    have h2 := (abs_sq_le (by omega) h1).2
    have e1 : (x * y + s) * (x * y + s) = (x * x) * (y * y) + 2 * (s * (x * y)) + s * s := by
      have e : (x * y) * (x * y) = (x * x) * (y * y) := by
        rw [Int.mul_assoc, Int.mul_left_comm y x y, ← Int.mul_assoc]
      rw [← e]
      generalize x * y = z
      simp only [Int.add_mul, Int.mul_add, Int.mul_comm z s]
      omega
    have e2 : (x * x + A) * (y * y + B) = (x * x) * (y * y) + B * (x * x) + A * (y * y) + A * B := by
      simp only [Int.add_mul, Int.mul_add, Int.mul_comm (x * x) B]
      omega
    omega

theorem n_bound {c : Int} (hc : 0 ≤ c) : ∀ (v : List Int), (∀ x ∈ v, -c ≤ x ∧ x ≤ c) → n1 v ≤ v.length * c ∧ n2 v ≤ v.length * (c * c) ∧ n3 v ≤ c
  | [], _ => by simp [n1, n2, n3, hc]
  | x :: v, h => by
    obtain ⟨h1, h2, h3⟩ := n_bound hc v (fun y hy => h y (by simp [hy]))
    have hx := h x (by simp)
    have hs := (sq_size hx).2
    simp only [n1, n2, n3, List.length_cons]
    have e : ((v.length + 1 : Nat) : Int) * c = v.length * c + c := by rw [Int.natCast_add, Int.add_mul]; simp
    have e' : ((v.length + 1 : Nat) : Int) * (c * c) = v.length * (c * c) + c * c := by rw [Int.natCast_add, Int.add_mul]; simp
    rw [e, e']
    unfold sizeS
    omega

theorem alike_iff {p q : List Int} : alikeB p q = true ↔ vecOk p = true ∧ vecOk q = true ∧ p.length = q.length := by
  unfold alikeB
  simp

theorem normS_nonneg (m : Int) (v : List Int) : 0 ≤ normS m v := by
  rw [normS_eq]
  have := n1_nonneg v; have := n2_nonneg v; have := n3_nonneg v
  split
  · assumption
  · split <;> assumption

/-- Keys of vectors are keys. -/
theorem key_bound {p q : List Int} (m : Int) (h : alikeB p q = true) : 0 ≤ keyS m p q ∧ keyS m p q ≤ 128000000 := by
  obtain ⟨hp, hq, hl⟩ := alike_iff.1 h
  obtain ⟨p1, p2, p3⟩ := vecB_iff.1 hp
  obtain ⟨q1, q2, q3⟩ := vecB_iff.1 hq
  refine ⟨normS_nonneg _ _, ?_⟩
  obtain ⟨h1, h2, h3⟩ := n_bound (c := 2000) (by omega) (subS p q) (fun x hx => subS_small (k := 0) p1 q1 x hx)
  rw [subS_length hl] at h1 h2
  unfold keyS
  rw [normS_eq]
  have : (p.length : Int) ≤ 32 := by omega
  have e : (2000 : Int) * 2000 = 4000000 := by decide
  rw [e] at h2
  split
  · omega
  · split <;> omega
end Go.Proofs.Ytohbapfijafecaa
