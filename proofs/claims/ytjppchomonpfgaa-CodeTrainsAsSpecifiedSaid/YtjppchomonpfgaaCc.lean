import Derived.Test.YtjppchomonpfgaaCb
namespace Go.Proofs.Ytjppchomonpfgaa
open Go.AM Go.PL
set_option linter.unusedVariables false
theorem cut_nf (c : List Int) (d : Int) : fnwp (D0 []) 6 38 cutSp (c, d) = (∃ (I : Int → Prop), ∃ (μ : Int → Nat), I (0 : Int) ∧ ∀ (x : Int), I x → (decide (x < (↑c.length : Int))
  = true → ((0 : Int) ≤ x ∧ x < (↑c.length : Int)) ∧ (decide (d ≤ c.getD x.toNat (0 : Int)) = true → false = cutB c d) ∧ (decide (d ≤ c.getD x.toNat (0 : Int)) = false → (decide (x
  = (0 : Int)) = true → ((!decide (c.getD x.toNat (0 : Int) = (0 : Int))) = true → false = cutB c d) ∧ ((!decide (c.getD x.toNat (0 : Int) = (0 : Int))) = false → (decide ((0 :
  Int) < x) = true → isI64 (x - (1 : Int)) ∧ ((0 : Int) ≤ x - (1 : Int) ∧ x - (1 : Int) < (↑c.length : Int)) ∧ (decide (c.getD x.toNat (0 : Int) ≤ c.getD (x - (1 : Int)).toNat (0 :
  Int)) = true → false = cutB c d) ∧ (decide (c.getD x.toNat (0 : Int) ≤ c.getD (x - (1 : Int)).toNat (0 : Int)) = false → isI64 (x + (1 : Int)) ∧ I (x + (1 : Int)) ∧ μ (x + (1 :
  Int)) < μ x)) ∧ (decide ((0 : Int) < x) = false → isI64 (x + (1 : Int)) ∧ I (x + (1 : Int)) ∧ μ (x + (1 : Int)) < μ x))) ∧ (decide (x = (0 : Int)) = false → (decide ((0 : Int) <
  x) = true → isI64 (x - (1 : Int)) ∧ ((0 : Int) ≤ x - (1 : Int) ∧ x - (1 : Int) < (↑c.length : Int)) ∧ (decide (c.getD x.toNat (0 : Int) ≤ c.getD (x - (1 : Int)).toNat (0 : Int))
  = true → false = cutB c d) ∧ (decide (c.getD x.toNat (0 : Int) ≤ c.getD (x - (1 : Int)).toNat (0 : Int)) = false → isI64 (x + (1 : Int)) ∧ I (x + (1 : Int)) ∧ μ (x + (1 : Int)) <
  μ x)) ∧ (decide ((0 : Int) < x) = false → isI64 (x + (1 : Int)) ∧ I (x + (1 : Int)) ∧ μ (x + (1 : Int)) < μ x)))) ∧ (decide (x < (↑c.length : Int)) = false → (decide ((1 : Int) ≤
  (↑c.length : Int)) = true → (decide ((↑c.length : Int) ≤ (8 : Int)) = true → (decide ((1 : Int) ≤ d) = true → decide (d ≤ (32 : Int)) = cutB c d) ∧ (decide ((1 : Int) ≤ d) =
  false → false = cutB c d)) ∧ (decide ((↑c.length : Int) ≤ (8 : Int)) = false → false = cutB c d)) ∧ (decide ((1 : Int) ≤ (↑c.length : Int)) = false → false = cutB c d))) := by
  kernel_rfl
theorem rCut_nf (c : List Int) (d : Int) : fnwp (D0 []) 6 43 cutSp (c, d) = ((decide (d < (1 : Int)) = true → false = cutB c d) ∧ (decide (d < (1 : Int)) = false → (decide ((32 :
  Int) < d) = true → false = cutB c d) ∧ (decide ((32 : Int) < d) = false → (decide ((↑c.length : Int) < (1 : Int)) = true → false = cutB c d) ∧ (decide ((↑c.length : Int) < (1 :
  Int)) = false → (decide ((8 : Int) < (↑c.length : Int)) = true → false = cutB c d) ∧ (decide ((8 : Int) < (↑c.length : Int)) = false → ((0 : Int) ≤ (0 : Int) ∧ (0 : Int) <
  (↑c.length : Int)) ∧ ((!decide (c.getD (0 : Nat) (0 : Int) = (0 : Int))) = true → false = cutB c d) ∧ ((!decide (c.getD (0 : Nat) (0 : Int) = (0 : Int))) = false → ∃ (I : Int →
  Prop), ∃ (μ : Int → Nat), I (0 : Int) ∧ ∀ (x : Int), I x → (decide (x < (↑c.length : Int)) = true → ((0 : Int) ≤ x ∧ x < (↑c.length : Int)) ∧ (decide (d ≤ c.getD x.toNat (0 :
  Int)) = true → false = cutB c d) ∧ (decide (d ≤ c.getD x.toNat (0 : Int)) = false → (decide ((0 : Int) < x) = true → ((0 : Int) ≤ x ∧ x < (↑c.length : Int)) ∧ isI64 (x - (1 :
  Int)) ∧ ((0 : Int) ≤ x - (1 : Int) ∧ x - (1 : Int) < (↑c.length : Int)) ∧ (decide (c.getD x.toNat (0 : Int) ≤ c.getD (x - (1 : Int)).toNat (0 : Int)) = true → false = cutB c d) ∧
  (decide (c.getD x.toNat (0 : Int) ≤ c.getD (x - (1 : Int)).toNat (0 : Int)) = false → isI64 (x + (1 : Int)) ∧ I (x + (1 : Int)) ∧ μ (x + (1 : Int)) < μ x)) ∧ (decide ((0 : Int) <
  x) = false → isI64 (x + (1 : Int)) ∧ I (x + (1 : Int)) ∧ μ (x + (1 : Int)) < μ x))) ∧ (decide (x < (↑c.length : Int)) = false → true = cutB c d))))))) := by kernel_rfl
theorem end_nf (c : List Int) (d k : Int) : fnwp (D0 []) 6 45 endSp (c, d, k) = (isI64 (k + (1 : Int)) ∧ (decide (k + (1 : Int) < (↑c.length : Int)) = true → isI64 (k + (1 : Int))
  ∧ ((0 : Int) ≤ k + (1 : Int) ∧ k + (1 : Int) < (↑c.length : Int)) ∧ c.getD (k + (1 : Int)).toNat (0 : Int) = endN c d k.toNat) ∧ (decide (k + (1 : Int) < (↑c.length : Int)) =
  false → d = endN c d k.toNat)) := by kernel_rfl
theorem of_nf (p : Int × Int × Int × Unit) (v : List Int) : fnwp (D0 []) 6 48 ofSp (p, v) = (((0 : Int) ≤ p.snd.fst ∧ p.snd.fst ≤ p.snd.snd.fst ∧ p.snd.snd.fst ≤ (↑v.length : Int))
  ∧ List.take (p.snd.snd.fst.toNat - p.snd.fst.toNat) (List.drop p.snd.fst.toNat v) = List.take (p.snd.snd.fst.toNat - p.snd.fst.toNat) (List.drop p.snd.fst.toNat v)) := by
  kernel_rfl
theorem near_nf (m : Int) (ws : List (List Int)) (v : List Int) : fnwp (D0 []) 6 47 nearSp (m, ws, v) = (∃ (I : Int × Int × Int → Prop), ∃ (μ : Int × Int × Int → Nat), I ((0 :
  Int), (0 : Int), (134217729 : Int)) ∧ ∀ (x : Int × Int × Int), I x → (decide (x.fst < (↑ws.length : Int)) = true → ((0 : Int) ≤ x.fst ∧ x.fst < (↑ws.length : Int)) ∧ ((1 : Int) ≤
  m ∧ m ≤ (3 : Int) ∧ small (64 : Nat) (4000 : Int) (ws.getD x.fst.toNat []) ∧ small (64 : Nat) (4000 : Int) v ∧ (ws.getD x.fst.toNat []).length = v.length) ∧ (decide (keyS m
  (ws.getD x.fst.toNat []) v < x.snd.snd) = true → isI64 (x.fst + (1 : Int)) ∧ I (x.fst + (1 : Int), x.fst, keyS m (ws.getD x.fst.toNat []) v) ∧ μ (x.fst + (1 : Int), x.fst, keyS m
  (ws.getD x.fst.toNat []) v) < μ x) ∧ (decide (keyS m (ws.getD x.fst.toNat []) v < x.snd.snd) = false → isI64 (x.fst + (1 : Int)) ∧ I (x.fst + (1 : Int), x.snd.fst, x.snd.snd) ∧ μ
  (x.fst + (1 : Int), x.snd.fst, x.snd.snd) < μ x)) ∧ (decide (x.fst < (↑ws.length : Int)) = false → (x.snd.fst, x.snd.snd) = ((↑(bestS m ws v) : Int), leastS m ws v))) := by
  kernel_rfl
theorem rows_nf (a b : List (List Int)) : fnwp (D0 []) 6 25 rowsSp (a, b) = (((!decide ((↑a.length : Int) = (↑b.length : Int))) = true → false = decide (a = b)) ∧ ((!decide
  ((↑a.length : Int) = (↑b.length : Int))) = false → ∃ (I : Int → Prop), ∃ (μ : Int → Nat), I (0 : Int) ∧ ∀ (x : Int), I x → (decide (x < (↑a.length : Int)) = true → ((0 : Int) ≤ x
  ∧ x < (↑a.length : Int)) ∧ ((0 : Int) ≤ x ∧ x < (↑b.length : Int)) ∧ True ∧ ((!decide (a.getD x.toNat [] = b.getD x.toNat [])) = true → false = decide (a = b)) ∧ ((!decide
  (a.getD x.toNat [] = b.getD x.toNat [])) = false → isI64 (x + (1 : Int)) ∧ I (x + (1 : Int)) ∧ μ (x + (1 : Int)) < μ x)) ∧ (decide (x < (↑a.length : Int)) = false → true = decide
  (a = b)))) := by kernel_rfl
theorem bnd_nf (m a b : Int) : fnwp (D0 []) 6 23 bndSp (m, a, b) = ((keyP a ∧ keyP b) ∧ (keyP a ∧ keyP b) ∧ (lowS m a b, highS m a b) = (lowS m a b, highS m a b)) := by kernel_rfl
theorem rBnd_nf (m a b : Int) : fnwp (D0 []) 6 24 rBndSp (m, a, b) = ((keyP a ∧ keyP b) ∧ (keyP a ∧ keyP b) ∧ (lowS m a b, highS m a b, ()) = (lowS m a b, highS m a b, ())) := by
  kernel_rfl
theorem few_nf (b : Book) : fnwp (D0 []) 6 10 fewSp b = ((decide ((9 : Int) < (↑b.snd.snd.fst.length : Int)) = true → false = fewBk b) ∧ (decide ((9 : Int) < (↑b.snd.snd.fst.length
  : Int)) = false → (decide ((9 : Int) < (↑b.snd.fst.length : Int)) = true → false = fewBk b) ∧ (decide ((9 : Int) < (↑b.snd.fst.length : Int)) = false → ∃ (I : Int → Prop), ∃ (μ :
  Int → Nat), I (0 : Int) ∧ ∀ (x : Int), I x → (decide (x < (↑b.snd.snd.fst.length : Int)) = true → ((0 : Int) ≤ x ∧ x < (↑b.snd.snd.fst.length : Int)) ∧ (decide ((30 : Int) <
  (↑(b.snd.snd.fst.getD x.toNat []).length : Int)) = true → ((0 : Int) ≤ x ∧ x < (↑b.snd.snd.fst.length : Int)) ∧ (decide ((↑(b.snd.snd.fst.getD x.toNat []).length : Int) ≤ (256 :
  Int)) = true → false = fewBk b) ∧ (decide ((↑(b.snd.snd.fst.getD x.toNat []).length : Int) ≤ (256 : Int)) = false → ((0 : Int) ≤ x ∧ x < (↑b.snd.snd.fst.length : Int)) ∧ (decide
  ((300 : Int) < (↑(b.snd.snd.fst.getD x.toNat []).length : Int)) = true → false = fewBk b) ∧ (decide ((300 : Int) < (↑(b.snd.snd.fst.getD x.toNat []).length : Int)) = false → ∃
  (I_1 : Int → Prop), ∃ (μ_1 : Int → Nat), I_1 (0 : Int) ∧ ∀ (x_1 : Int), I_1 x_1 → ((0 : Int) ≤ x ∧ x < (↑b.snd.snd.fst.length : Int)) ∧ (decide (x_1 < (↑(b.snd.snd.fst.getD
  x.toNat []).length : Int)) = true → ((0 : Int) ≤ x ∧ x < (↑b.snd.snd.fst.length : Int)) ∧ ((0 : Int) ≤ x_1 ∧ x_1 < (↑(b.snd.snd.fst.getD x.toNat []).length : Int)) ∧ (decide ((33
  : Int) < (↑((b.snd.snd.fst.getD x.toNat []).getD x_1.toNat []).length : Int)) = true → false = fewBk b) ∧ (decide ((33 : Int) < (↑((b.snd.snd.fst.getD x.toNat []).getD x_1.toNat
  []).length : Int)) = false → isI64 (x_1 + (1 : Int)) ∧ I_1 (x_1 + (1 : Int)) ∧ μ_1 (x_1 + (1 : Int)) < μ_1 x_1)) ∧ (decide (x_1 < (↑(b.snd.snd.fst.getD x.toNat []).length : Int))
  = false → isI64 (x + (1 : Int)) ∧ I (x + (1 : Int)) ∧ μ (x + (1 : Int)) < μ x)))) ∧ (decide ((30 : Int) < (↑(b.snd.snd.fst.getD x.toNat []).length : Int)) = false → ((0 : Int) ≤
  x ∧ x < (↑b.snd.snd.fst.length : Int)) ∧ (decide ((300 : Int) < (↑(b.snd.snd.fst.getD x.toNat []).length : Int)) = true → false = fewBk b) ∧ (decide ((300 : Int) <
  (↑(b.snd.snd.fst.getD x.toNat []).length : Int)) = false → ∃ (I_1 : Int → Prop), ∃ (μ_1 : Int → Nat), I_1 (0 : Int) ∧ ∀ (x_1 : Int), I_1 x_1 → ((0 : Int) ≤ x ∧ x <
  (↑b.snd.snd.fst.length : Int)) ∧ (decide (x_1 < (↑(b.snd.snd.fst.getD x.toNat []).length : Int)) = true → ((0 : Int) ≤ x ∧ x < (↑b.snd.snd.fst.length : Int)) ∧ ((0 : Int) ≤ x_1 ∧
  x_1 < (↑(b.snd.snd.fst.getD x.toNat []).length : Int)) ∧ (decide ((33 : Int) < (↑((b.snd.snd.fst.getD x.toNat []).getD x_1.toNat []).length : Int)) = true → false = fewBk b) ∧
  (decide ((33 : Int) < (↑((b.snd.snd.fst.getD x.toNat []).getD x_1.toNat []).length : Int)) = false → isI64 (x_1 + (1 : Int)) ∧ I_1 (x_1 + (1 : Int)) ∧ μ_1 (x_1 + (1 : Int)) < μ_1
  x_1)) ∧ (decide (x_1 < (↑(b.snd.snd.fst.getD x.toNat []).length : Int)) = false → isI64 (x + (1 : Int)) ∧ I (x + (1 : Int)) ∧ μ (x + (1 : Int)) < μ x)))) ∧ (decide (x <
  (↑b.snd.snd.fst.length : Int)) = false → true = fewBk b)))) := by kernel_rfl
theorem sum_nf (m : Int) (t : List (List Int)) (c : List Int) : fnwp (D0 []) 6 27 sumSp (m, t, c) = ((m = (1 : Int) → ∃ (I : Int × Int → Prop), ∃ (μ : Int × Int → Nat), I ((0 :
  Int), (0 : Int)) ∧ ∀ (x : Int × Int), I x → (decide (x.snd < (↑c.length : Int)) = true → ((0 : Int) ≤ x.snd ∧ x.snd < (↑c.length : Int)) ∧ ((0 : Int) ≤ x.snd ∧ x.snd < (↑t.length
  : Int)) ∧ ((0 : Int) ≤ c.getD x.snd.toNat (0 : Int) ∧ c.getD x.snd.toNat (0 : Int) < (↑(t.getD x.snd.toNat []).length : Int)) ∧ isI64 (x.fst + (t.getD x.snd.toNat []).getD
  (c.getD x.snd.toNat (0 : Int)).toNat (0 : Int)) ∧ isI64 (x.snd + (1 : Int)) ∧ I (x.fst + (t.getD x.snd.toNat []).getD (c.getD x.snd.toNat (0 : Int)).toNat (0 : Int), x.snd + (1 :
  Int)) ∧ μ (x.fst + (t.getD x.snd.toNat []).getD (c.getD x.snd.toNat (0 : Int)).toNat (0 : Int), x.snd + (1 : Int)) < μ x) ∧ (decide (x.snd < (↑c.length : Int)) = false → x.fst =
  sumS m t c)) ∧ (¬m = (1 : Int) → (m = (2 : Int) → ∃ (I : Int × Int → Prop), ∃ (μ : Int × Int → Nat), I ((0 : Int), (0 : Int)) ∧ ∀ (x : Int × Int), I x → (decide (x.snd <
  (↑c.length : Int)) = true → ((0 : Int) ≤ x.snd ∧ x.snd < (↑c.length : Int)) ∧ ((0 : Int) ≤ x.snd ∧ x.snd < (↑t.length : Int)) ∧ ((0 : Int) ≤ c.getD x.snd.toNat (0 : Int) ∧ c.getD
  x.snd.toNat (0 : Int) < (↑(t.getD x.snd.toNat []).length : Int)) ∧ isI64 (x.fst + (t.getD x.snd.toNat []).getD (c.getD x.snd.toNat (0 : Int)).toNat (0 : Int)) ∧ isI64 (x.snd + (1
  : Int)) ∧ I (x.fst + (t.getD x.snd.toNat []).getD (c.getD x.snd.toNat (0 : Int)).toNat (0 : Int), x.snd + (1 : Int)) ∧ μ (x.fst + (t.getD x.snd.toNat []).getD (c.getD x.snd.toNat
  (0 : Int)).toNat (0 : Int), x.snd + (1 : Int)) < μ x) ∧ (decide (x.snd < (↑c.length : Int)) = false → x.fst = sumS m t c)) ∧ (¬m = (2 : Int) → (m = (3 : Int) → ∃ (I : Int × Int →
  Prop), ∃ (μ : Int × Int → Nat), I ((0 : Int), (0 : Int)) ∧ ∀ (x : Int × Int), I x → (decide (x.snd < (↑c.length : Int)) = true → ((0 : Int) ≤ x.snd ∧ x.snd < (↑c.length : Int)) ∧
  ((0 : Int) ≤ x.snd ∧ x.snd < (↑t.length : Int)) ∧ ((0 : Int) ≤ c.getD x.snd.toNat (0 : Int) ∧ c.getD x.snd.toNat (0 : Int) < (↑(t.getD x.snd.toNat []).length : Int)) ∧ isI64
  (x.snd + (1 : Int)) ∧ I (max x.fst ((t.getD x.snd.toNat []).getD (c.getD x.snd.toNat (0 : Int)).toNat (0 : Int)), x.snd + (1 : Int)) ∧ μ (max x.fst ((t.getD x.snd.toNat []).getD
  (c.getD x.snd.toNat (0 : Int)).toNat (0 : Int)), x.snd + (1 : Int)) < μ x) ∧ (decide (x.snd < (↑c.length : Int)) = false → x.fst = sumS m t c)) ∧ (¬m = (3 : Int) → ∃ (I : Int ×
  Int → Prop), ∃ (μ : Int × Int → Nat), I ((0 : Int), (0 : Int)) ∧ ∀ (x : Int × Int), I x → (decide (x.snd < (↑c.length : Int)) = true → ((0 : Int) ≤ x.snd ∧ x.snd < (↑c.length :
  Int)) ∧ ((0 : Int) ≤ x.snd ∧ x.snd < (↑t.length : Int)) ∧ ((0 : Int) ≤ c.getD x.snd.toNat (0 : Int) ∧ c.getD x.snd.toNat (0 : Int) < (↑(t.getD x.snd.toNat []).length : Int)) ∧
  False) ∧ (decide (x.snd < (↑c.length : Int)) = false → x.fst = sumS m t c))))) := by kernel_rfl
theorem rSum_nf (m : Int) (t : List (List Int)) (c : List Int) : fnwp (D0 []) 6 28 sumSp (m, t, c) = (∃ (I : Int × Int → Prop), ∃ (μ : Int × Int → Nat), I ((0 : Int), (0 : Int)) ∧
  ∀ (x : Int × Int), I x → (decide (x.snd < (↑c.length : Int)) = true → ((0 : Int) ≤ x.snd ∧ x.snd < (↑t.length : Int)) ∧ ((0 : Int) ≤ x.snd ∧ x.snd < (↑c.length : Int)) ∧ ((0 :
  Int) ≤ c.getD x.snd.toNat (0 : Int) ∧ c.getD x.snd.toNat (0 : Int) < (↑(t.getD x.snd.toNat []).length : Int)) ∧ ((!decide (m = (3 : Int))) = true → isI64 (x.fst + (t.getD
  x.snd.toNat []).getD (c.getD x.snd.toNat (0 : Int)).toNat (0 : Int)) ∧ isI64 (x.snd + (1 : Int)) ∧ I (x.fst + (t.getD x.snd.toNat []).getD (c.getD x.snd.toNat (0 : Int)).toNat (0
  : Int), x.snd + (1 : Int)) ∧ μ (x.fst + (t.getD x.snd.toNat []).getD (c.getD x.snd.toNat (0 : Int)).toNat (0 : Int), x.snd + (1 : Int)) < μ x) ∧ ((!decide (m = (3 : Int))) =
  false → (decide (x.fst < (t.getD x.snd.toNat []).getD (c.getD x.snd.toNat (0 : Int)).toNat (0 : Int)) = true → isI64 (x.snd + (1 : Int)) ∧ I ((t.getD x.snd.toNat []).getD (c.getD
  x.snd.toNat (0 : Int)).toNat (0 : Int), x.snd + (1 : Int)) ∧ μ ((t.getD x.snd.toNat []).getD (c.getD x.snd.toNat (0 : Int)).toNat (0 : Int), x.snd + (1 : Int)) < μ x) ∧ (decide
  (x.fst < (t.getD x.snd.toNat []).getD (c.getD x.snd.toNat (0 : Int)).toNat (0 : Int)) = false → isI64 (x.snd + (1 : Int)) ∧ I (x.fst, x.snd + (1 : Int)) ∧ μ (x.fst, x.snd + (1 :
  Int)) < μ x))) ∧ (decide (x.snd < (↑c.length : Int)) = false → x.fst = sumS m t c)) := by kernel_rfl
end Go.Proofs.Ytjppchomonpfgaa
