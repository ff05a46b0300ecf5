import Derived.Test.YtjppchomonpfgaaTd
--@drop
namespace Go.PL
set_option linter.unusedVariables false
open Go.AM

/-! ### Norms, plain -/
def n1 : List Int → Int
  | [] => 0
  | x :: v => sizeS x + n1 v
def n2 : List Int → Int
  | [] => 0
  | x :: v => x * x + n2 v
def n3 : List Int → Int
  | [] => 0
  | x :: v => max (sizeS x) (n3 v)
theorem n1_nonneg : ∀ v, 0 ≤ n1 v
  | [] => by simp [n1]
  | x :: v => by have := n1_nonneg v; unfold n1 sizeS; omega
theorem n2_nonneg : ∀ v, 0 ≤ n2 v
  | [] => by simp [n2]
  | x :: v => by
    have := n2_nonneg v
    have h := (sq_size (c := sizeS x) (x := x) (by unfold sizeS; omega)).1
    unfold n2; omega
theorem n3_nonneg : ∀ v, 0 ≤ n3 v
  | [] => by simp [n3]
  | x :: v => by have := n3_nonneg v; unfold n3 sizeS; omega

theorem normFrom_1 : ∀ (v : List Int) (n : Int), normFrom 1 n v = n + n1 v
  | [], n => by simp [normFrom, n1]
  | x :: v, n => by
    have := normFrom_1 v (normStep 1 n x)
    simp only [normFrom, List.foldl_cons] at this ⊢
    rw [this]
    simp only [normStep, if_true, n1]
    omega
theorem normFrom_2 : ∀ (v : List Int) (n : Int), normFrom 2 n v = n + n2 v
  | [], n => by simp [normFrom, n2]
  | x :: v, n => by
    have := normFrom_2 v (normStep 2 n x)
    simp only [normFrom, List.foldl_cons] at this ⊢
    rw [this]
    simp only [normStep, n2]
    rw [if_neg (by decide), if_pos trivial]
    omega
theorem normFrom_3 {m : Int} (h1 : m ≠ 1) (h2 : m ≠ 2) : ∀ (v : List Int) (n : Int), 0 ≤ n → normFrom m n v = max n (n3 v)
  | [], n, h => by simp [normFrom, n3]; omega
  | x :: v, n, h => by
    have := normFrom_3 h1 h2 v (normStep m n x) (by unfold normStep sizeS; rw [if_neg h1, if_neg h2]; omega)
    simp only [normFrom, List.foldl_cons] at this ⊢
    rw [this]
    simp only [normStep, n3]
    rw [if_neg h1, if_neg h2]
    omega

theorem normS_eq (m : Int) (v : List Int) : normS m v = if m = 1 then n1 v else if m = 2 then n2 v else n3 v := by
  unfold normS
  split
  · rename_i h; subst h; rw [normFrom_1]; omega
  · rename_i h
    split
    · rename_i h2; subst h2; rw [normFrom_2]; omega
    · rename_i h2; rw [normFrom_3 h h2 _ _ (by omega)]; have := n3_nonneg v; omega

theorem n_comm : ∀ (a b : List Int), n1 (subS a b) = n1 (subS b a) ∧ n2 (subS a b) = n2 (subS b a) ∧ n3 (subS a b) = n3 (subS b a)
  | [], [] => ⟨rfl, rfl, rfl⟩
  | [], _ :: _ => ⟨rfl, rfl, rfl⟩
  | _ :: _, [] => ⟨rfl, rfl, rfl⟩
  | x :: a, y :: b => by
    obtain ⟨h1, h2, h3⟩ := n_comm a b
    have e : (x - y) * (x - y) = (y - x) * (y - x) := by rw [← Int.neg_sub y x, Int.neg_mul_neg]
    have e' : sizeS (x - y) = sizeS (y - x) := by unfold sizeS; omega
    simp only [subS, n1, n2, n3, h1, h2, h3, e, e', and_self]

theorem keyS_comm (m : Int) (a b : List Int) : keyS m a b = keyS m b a := by
  unfold keyS
  rw [normS_eq, normS_eq]
  obtain ⟨h1, h2, h3⟩ := n_comm a b
  rw [h1, h2, h3]

theorem n1_tri : ∀ (p q r : List Int), p.length = q.length → q.length = r.length → n1 (subS p r) ≤ n1 (subS p q) + n1 (subS q r)
  | [], q, r, _, _ => by simp only [subS, n1]; have := n1_nonneg (subS q r); omega
  | x :: p, y :: q, z :: r, h, h' => by
    have := n1_tri p q r (by simpa using h) (by simpa using h')
    simp only [subS, n1, sizeS]
    omega
  | _ :: _, [], _, h, _ => by simp at h
  | _ :: _, _ :: _, [], _, h => by simp at h
theorem n3_tri : ∀ (p q r : List Int), p.length = q.length → q.length = r.length → n3 (subS p r) ≤ n3 (subS p q) + n3 (subS q r)
  | [], q, r, _, _ => by simp only [subS, n3]; have := n3_nonneg (subS q r); omega
  | x :: p, y :: q, z :: r, h, h' => by
    have := n3_tri p q r (by simpa using h) (by simpa using h')
    simp only [subS, n3, sizeS]
    omega
  | _ :: _, [], _, h, _ => by simp at h
  | _ :: _, _ :: _, [], _, h => by simp at h

theorem n2_split : ∀ (p q r : List Int), p.length = q.length → q.length = r.length → n2 (subS p r) = n2 (subS p q) + n2 (subS q r) + 2 * dotS (subS p q) (subS q r)
  | [], [], _, _, h => by cases ‹List Int› <;> simp_all [subS, n2, dotS]
  | x :: p, y :: q, z :: r, h, h' => by
    have := n2_split p q r (by simpa using h) (by simpa using h')
    simp only [subS, n2, dotS]
    have e : (x - z) * (x - z) = (x - y) * (x - y) + (y - z) * (y - z) + 2 * ((x - y) * (y - z)) := by
      have h1 : x - z = (x - y) + (y - z) := by omega
      rw [h1]
      generalize x - y = s
      generalize y - z = t
      simp only [Int.add_mul, Int.mul_add, Int.mul_comm t s]
      omega
    omega
  | [], _ :: _, _, h, _ => by simp at h
  | _ :: _, [], _, h, _ => by simp at h
  | _ :: _, _ :: _, [], _, h => by simp at h

theorem sq_nonneg (x : Int) : 0 ≤ x * x := by
  rcases Int.le_total 0 x with h' | h'
  · exact Int.mul_nonneg h' h'
  · exact Int.mul_nonneg_of_nonpos_of_nonpos h' h'

theorem abs_sq_le {x y : Int} (hy : 0 ≤ y) (h : x * x ≤ y * y) : -y ≤ x ∧ x ≤ y := by
  have key : ∀ z : Int, z * z ≤ y * y → z ≤ y := by
    intro z hz
    rcases Int.lt_or_le y z with h' | h'
    · have : (y + 1) * (y + 1) ≤ z * z := Int.mul_le_mul (by omega) (by omega) (by omega) (by omega)
      have e : (y + 1) * (y + 1) = y * y + 2 * y + 1 := by simp only [Int.add_mul, Int.mul_add]; omega
      omega
    · exact h'
  refine ⟨?_, key x h⟩
  have := key (-x) (by rw [Int.neg_mul_neg]; exact h)
  omega

/-- The inequality of Cauchy and Schwarz. -/
theorem cauchy : ∀ (u v : List Int), dotS u v * dotS u v ≤ n2 u * n2 v
  | [], v => by simp [dotS, n2]
  | _ :: _, [] => by simp [dotS, n2]
  | x :: u, y :: v => by
    have ih := cauchy u v
    have hA := n2_nonneg u
    have hB := n2_nonneg v
    simp only [dotS, n2]
    generalize dotS u v = s at *
    generalize n2 u = A at *
    generalize n2 v = B at *
    -- 2 s x y ≤ A y y + B x x
    have hAy : 0 ≤ A * (y * y) := Int.mul_nonneg hA (sq_nonneg y)
    have hBx : 0 ≤ B * (x * x) := Int.mul_nonneg hB (sq_nonneg x)
    have h1 : (2 * (s * (x * y))) * (2 * (s * (x * y))) ≤ (A * (y * y) + B * (x * x)) * (A * (y * y) + B * (x * x)) := by
      have e1 : (2 * (s * (x * y))) * (2 * (s * (x * y))) = 4 * ((s * s) * ((x * y) * (x * y))) := by
        generalize x * y = z
        rw [Int.mul_assoc, Int.mul_left_comm (s * z) 2, ← Int.mul_assoc 2 2]
        rw [Int.mul_assoc s z, Int.mul_left_comm z s z, ← Int.mul_assoc s s]
        rfl
      have e2 : (A * (y * y)) * (B * (x * x)) = (A * B) * ((x * y) * (x * y)) := by
        rw [Int.mul_assoc, Int.mul_left_comm (y * y) B, ← Int.mul_assoc A B]
        congr 1
        rw [Int.mul_comm (y * y), Int.mul_assoc, Int.mul_left_comm x y y, Int.mul_assoc, Int.mul_left_comm y x y]
      have h2 : (s * s) * ((x * y) * (x * y)) ≤ (A * B) * ((x * y) * (x * y)) := Int.mul_le_mul_of_nonneg_right ih (sq_nonneg _)
      have h3 : 4 * ((A * (y * y)) * (B * (x * x))) ≤ (A * (y * y) + B * (x * x)) * (A * (y * y) + B * (x * x)) := by
        generalize A * (y * y) = p
        generalize B * (x * x) = q
        have := sq_nonneg (p - q)
        have e : (p + q) * (p + q) = (p - q) * (p - q) + 4 * (p * q) := by
          simp only [Int.add_mul, Int.mul_add, Int.sub_mul, Int.mul_sub, Int.mul_comm q p]
          omega
        omega
      omega
    have h2 := (abs_sq_le (by omega) h1).2
    have e1 : (x * y + s) * (x * y + s) = (x * x) * (y * y) + 2 * (s * (x * y)) + s * s := by
      have e : (x * y) * (x * y) = (x * x) * (y * y) := by
        rw [Int.mul_assoc, Int.mul_left_comm y x y, ← Int.mul_assoc]
      rw [← e]
      generalize x * y = z
      simp only [Int.add_mul, Int.mul_add, Int.mul_comm z s]
      omega
    have e2 : (x * x + A) * (y * y + B) = (x * x) * (y * y) + B * (x * x) + A * (y * y) + A * B := by
      simp only [Int.add_mul, Int.mul_add, Int.mul_comm (x * x) B]
      omega
    omega

theorem n_bound {c : Int} (hc : 0 ≤ c) : ∀ (v : List Int), (∀ x ∈ v, -c ≤ x ∧ x ≤ c) → n1 v ≤ v.length * c ∧ n2 v ≤ v.length * (c * c) ∧ n3 v ≤ c
  | [], _ => by simp [n1, n2, n3, hc]
  | x :: v, h => by
    obtain ⟨h1, h2, h3⟩ := n_bound hc v (fun y hy => h y (by simp [hy]))
    have hx := h x (by simp)
    have hs := (sq_size hx).2
    simp only [n1, n2, n3, List.length_cons]
    have e : ((v.length + 1 : Nat) : Int) * c = v.length * c + c := by rw [Int.natCast_add, Int.add_mul]; simp
    have e' : ((v.length + 1 : Nat) : Int) * (c * c) = v.length * (c * c) + c * c := by rw [Int.natCast_add, Int.add_mul]; simp
    rw [e, e']
    unfold sizeS
    omega

theorem alike_iff {p q : List Int} : alikeB p q = true ↔ vecOk p = true ∧ vecOk q = true ∧ p.length = q.length := by
  unfold alikeB
  simp

theorem normS_nonneg (m : Int) (v : List Int) : 0 ≤ normS m v := by
  rw [normS_eq]
  have := n1_nonneg v; have := n2_nonneg v; have := n3_nonneg v
  split
  · assumption
  · split <;> assumption

/-- Keys of vectors are keys. -/
theorem key_bound {p q : List Int} (m : Int) (h : alikeB p q = true) : 0 ≤ keyS m p q ∧ keyS m p q ≤ 128000000 := by
  obtain ⟨hp, hq, hl⟩ := alike_iff.1 h
  obtain ⟨p1, p2, p3⟩ := vecB_iff.1 hp
  obtain ⟨q1, q2, q3⟩ := vecB_iff.1 hq
  refine ⟨normS_nonneg _ _, ?_⟩
  obtain ⟨h1, h2, h3⟩ := n_bound (c := 2000) (by omega) (subS p q) (fun x hx => subS_small p1 q1 x hx)
  rw [subS_length hl] at h1 h2
  unfold keyS
  rw [normS_eq]
  have : (p.length : Int) ≤ 32 := by omega
  have e : (2000 : Int) * 2000 = 4000000 := by decide
  rw [e] at h2
  split
  · omega
  · split <;> omega

theorem n_agree : ∀ (v : List Int), n3 v ≤ n1 v ∧ n1 v ≤ v.length * n3 v ∧ n3 v * n3 v ≤ n2 v ∧ n2 v ≤ n3 v * n1 v ∧ dotS v v = n2 v
  | [] => by simp [n1, n2, n3, dotS]
  | x :: v => by
    obtain ⟨h1, h2, h3, h4, h5⟩ := n_agree v
    have hn := n3_nonneg v
    have hn1 := n1_nonneg v
    have hn2 := n2_nonneg v
    have hx : 0 ≤ sizeS x := by unfold sizeS; omega
    have hxx : x * x = sizeS x * sizeS x := by
      unfold sizeS
      rcases Int.le_total x (-x) with h | h
      · rw [Int.max_eq_right h, Int.neg_mul_neg]
      · rw [Int.max_eq_left h]
    simp only [n1, n2, n3, dotS, List.length_cons]
    rw [hxx, h5]
    generalize sizeS x = s at *
    generalize n1 v = a at *
    generalize n2 v = b at *
    generalize n3 v = c at *
    have hss : 0 ≤ s * s := Int.mul_nonneg hx hx
    have hL : (0 : Int) ≤ (v.length : Int) := by omega
    have e : ((v.length + 1 : Nat) : Int) * max s c = v.length * max s c + max s c := by rw [Int.natCast_add, Int.add_mul]; simp
    have g1 : (v.length : Int) * c ≤ v.length * max s c := Int.mul_le_mul_of_nonneg_left (by omega) hL
    rw [e]
    refine ⟨by omega, by omega, ?_, ?_, rfl⟩
    · rcases Int.le_total s c with h | h
      · rw [Int.max_eq_right h]; omega
      · rw [Int.max_eq_left h]; omega
    · have g2 : s * s ≤ max s c * s := Int.mul_le_mul_of_nonneg_right (by omega) hx
      have g3 : c * a ≤ max s c * a := Int.mul_le_mul_of_nonneg_right (by omega) hn1
      rw [Int.mul_add]
      omega
theorem n1_sq : ∀ (v : List Int), n1 v * n1 v ≤ v.length * n2 v := by
  intro v
  have h := cauchy (v.map fun _ => 1) (v.map sizeS)
  have e1 : ∀ v : List Int, dotS (v.map fun _ => 1) (v.map sizeS) = n1 v := by
    intro v
    induction v with
    | nil => rfl
    | cons x v ih => simp only [List.map_cons, dotS, n1, ih]; omega
  have e2 : ∀ v : List Int, n2 (v.map fun _ => 1) = v.length := by
    intro v
    induction v with
    | nil => rfl
    | cons x v ih => simp only [List.map_cons, n2, ih, List.length_cons]; omega
  have e3 : ∀ v : List Int, n2 (v.map sizeS) = n2 v := by
    intro v
    induction v with
    | nil => rfl
    | cons x v ih =>
      simp only [List.map_cons, n2, ih]
      congr 1
      unfold sizeS
      rcases Int.le_total x (-x) with h | h
      · rw [Int.max_eq_right h, Int.neg_mul_neg]
      · rw [Int.max_eq_left h]
  rw [e1, e2, e3] at h
  exact h
theorem n2_sub : ∀ (a b : List Int), a.length = b.length → n2 (subS a b) = n2 a + n2 b - 2 * dotS a b
  | [], [], _ => rfl
  | x :: a, y :: b, h => by
    have := n2_sub a b (by simpa using h)
    simp only [subS, n2, dotS, this]
    have e : (x - y) * (x - y) = x * x + y * y - 2 * (x * y) := by
      simp only [Int.sub_mul, Int.mul_sub, Int.mul_comm y x]; omega
    omega
  | [], _ :: _, h => by simp at h
  | _ :: _, [], h => by simp at h
theorem n_zero : ∀ (a b : List Int), a.length = b.length → (n1 (subS a b) = 0 ↔ a = b) ∧ (n2 (subS a b) = 0 ↔ a = b) ∧ (n3 (subS a b) = 0 ↔ a = b)
  | [], [], _ => by simp [subS, n1, n2, n3]
  | x :: a, y :: b, h => by
    obtain ⟨h1, h2, h3⟩ := n_zero a b (by simpa using h)
    have m1 := n1_nonneg (subS a b)
    have m2 := n2_nonneg (subS a b)
    have m3 := n3_nonneg (subS a b)
    have hs : (x - y) * (x - y) = 0 ↔ x = y := by rw [Int.mul_eq_zero]; omega
    have hn := sq_nonneg (x - y)
    simp only [subS, n1, n2, n3, List.cons.injEq]
    refine ⟨?_, ?_, ?_⟩
    · rw [← h1]; unfold sizeS; omega
    · rw [← h2, ← hs]; omega
    · rw [← h3]; unfold sizeS; omega
  | [], _ :: _, h => by simp at h
  | _ :: _, [], h => by simp at h
theorem key_zero {m : Int} {a b : List Int} (h : a.length = b.length) : keyS m a b = 0 ↔ a = b := by
  obtain ⟨h1, h2, h3⟩ := n_zero a b h
  unfold keyS
  rw [normS_eq]
  split
  · exact h1
  · split
    · exact h2
    · exact h3
theorem key_tri {m : Int} {a b c : List Int} (hm : m ≠ 2) (h : a.length = b.length) (h' : b.length = c.length) : keyS m a c ≤ keyS m a b + keyS m b c := by
  unfold keyS
  rw [normS_eq, normS_eq, normS_eq]
  split
  · exact n1_tri a b c h h'
  · exact n3_tri a b c h h'
theorem key_tri2 {a b c : List Int} (h : a.length = b.length) (h' : b.length = c.length) : (keyS 2 a c - keyS 2 a b - keyS 2 b c) * (keyS 2 a c - keyS 2 a b - keyS 2 b c) ≤ 4 * keyS 2 a b * keyS 2 b c := by
  have e : ∀ x y : List Int, keyS 2 x y = n2 (subS x y) := fun x y => by unfold keyS; rw [normS_eq]; rfl
  rw [e, e, e]
  have h1 := n2_split a b c h h'
  have h2 := cauchy (subS a b) (subS b c)
  have e2 : n2 (subS a c) - n2 (subS a b) - n2 (subS b c) = 2 * dotS (subS a b) (subS b c) := by omega
  rw [e2, Int.mul_assoc 4]
  have e3 : ∀ z : Int, (2 * z) * (2 * z) = 4 * (z * z) := fun z => by rw [Int.mul_assoc, Int.mul_left_comm z 2, ← Int.mul_assoc 2 2]; rfl
  rw [e3]
  omega
/-! ### The order, plain -/
theorem sgnS_range (x y : Int) : -1 ≤ sgnS x y ∧ sgnS x y ≤ 1 := by
  unfold sgnS
  split
  · omega
  · split <;> omega
theorem lexS_range : ∀ (a b : List Int), -1 ≤ lexS a b ∧ lexS a b ≤ 1
  | [], [] => by simp [lexS]
  | [], _ :: _ => by simp [lexS]
  | _ :: _, [] => by simp [lexS]
  | x :: a, y :: b => by
    rw [lexS_cons]
    have := lexS_range a b
    have := sgnS_range x y
    split <;> omega
theorem sgn_cases (x y : Int) : (x < y ∧ sgnS x y = -1) ∨ (y < x ∧ sgnS x y = 1) ∨ (x = y ∧ sgnS x y = 0) := by
  unfold sgnS
  split
  · exact .inl ⟨by assumption, rfl⟩
  · split
    · exact .inr (.inl ⟨by assumption, rfl⟩)
    · exact .inr (.inr ⟨by omega, rfl⟩)
theorem lexS_turn : ∀ (a b : List Int), lexS a b = -lexS b a
  | [], [] => by simp [lexS]
  | [], _ :: _ => by simp [lexS]
  | _ :: _, [] => by simp [lexS]
  | x :: a, y :: b => by
    rw [lexS_cons, lexS_cons]
    have := lexS_turn a b
    rcases sgn_cases x y with ⟨h1, e1⟩ | ⟨h1, e1⟩ | ⟨h1, e1⟩ <;> rcases sgn_cases y x with ⟨h2, e2⟩ | ⟨h2, e2⟩ | ⟨h2, e2⟩ <;> first | omega | (rw [e1, e2]; simp; try omega)
theorem lexS_trans : ∀ (a b c : List Int), lexS a b ≤ 0 → lexS b c ≤ 0 → lexS a c ≤ 0
  | [], _, [], _, _ => by simp [lexS]
  | [], _, _ :: _, _, _ => by simp [lexS]
  | _ :: _, [], _, h, _ => by simp [lexS] at h
  | _ :: _, _ :: _, [], _, h => by simp [lexS] at h
  | x :: a, y :: b, z :: c, h, h' => by
    rw [lexS_cons] at h h' ⊢
    have := lexS_trans a b c
    rcases sgn_cases x y with ⟨h1, e1⟩ | ⟨h1, e1⟩ | ⟨h1, e1⟩ <;> rcases sgn_cases y z with ⟨h2, e2⟩ | ⟨h2, e2⟩ | ⟨h2, e2⟩ <;> rcases sgn_cases x z with ⟨h3, e3⟩ | ⟨h3, e3⟩ | ⟨h3, e3⟩ <;>
      rw [e1] at h <;> rw [e2] at h' <;> rw [e3] <;> simp at h h' ⊢ <;> omega
theorem cmpS_range (a b : List Int) : -1 ≤ cmpS a b ∧ cmpS a b ≤ 1 := by
  unfold cmpS
  have := lexS_range a b
  split
  · omega
  · split <;> omega
theorem cmpS_turn (a b : List Int) : cmpS a b = -cmpS b a := by
  unfold cmpS
  have := lexS_turn a b
  split <;> split <;> (try split) <;> omega
theorem cmpS_trans (a b c : List Int) (h : cmpS a b ≤ 0) (h' : cmpS b c ≤ 0) : cmpS a c ≤ 0 := by
  unfold cmpS at *
  have := lexS_trans a b c
  have := lexS_range a b
  have := lexS_range b c
  split
  · omega
  · split at h
    · split at h'
      · omega
      · split at h'
        · omega
        · omega
    · split at h
      · omega
      · split at h'
        · split <;> omega
        · split at h'
          · omega
          · split <;> omega
end Go.PL
