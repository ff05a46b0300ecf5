import Derived.Test.YtjppchomonpfgaaCb
namespace Go.Proofs.Ytjppchomonpfgaa
open Go.AM Go.PL
set_option linter.unusedVariables false
theorem sameBk_nf (a b : Book) : fnwp (D1 []) 6 33 sameBkSp (a, b) = (((!decide (a.fst = b.fst)) = true → false = decide (a = b)) ∧ ((!decide (a.fst = b.fst)) = false → True ∧
  ((!decide (a.snd.fst = b.snd.fst)) = true → false = decide (a = b)) ∧ ((!decide (a.snd.fst = b.snd.fst)) = false → ((!decide ((↑a.snd.snd.fst.length : Int) =
  (↑b.snd.snd.fst.length : Int))) = true → false = decide (a = b)) ∧ ((!decide ((↑a.snd.snd.fst.length : Int) = (↑b.snd.snd.fst.length : Int))) = false → ∃ (I : Int → Prop), ∃ (μ :
  Int → Nat), I (0 : Int) ∧ ∀ (x : Int), I x → (decide (x < (↑a.snd.snd.fst.length : Int)) = true → ((0 : Int) ≤ x ∧ x < (↑a.snd.snd.fst.length : Int)) ∧ ((0 : Int) ≤ x ∧ x <
  (↑b.snd.snd.fst.length : Int)) ∧ True ∧ ((!decide (a.snd.snd.fst.getD x.toNat [] = b.snd.snd.fst.getD x.toNat [])) = true → false = decide (a = b)) ∧ ((!decide
  (a.snd.snd.fst.getD x.toNat [] = b.snd.snd.fst.getD x.toNat [])) = false → isI64 (x + (1 : Int)) ∧ I (x + (1 : Int)) ∧ μ (x + (1 : Int)) < μ x)) ∧ (decide (x <
  (↑a.snd.snd.fst.length : Int)) = false → true = decide (a = b)))))) := by kernel_rfl
theorem rPart_nf (b : Book) (k : Int) (v : List Int) : fnwp (D1 []) 6 49 partSp (b, k, v) = (((0 : Int) ≤ k ∧ k < (↑b.snd.fst.length : Int)) ∧ ((0 : Int) ≤ k ∧ k ≤ (1000 : Int)) ∧
  ((0 : Int) ≤ b.snd.fst.getD k.toNat (0 : Int) ∧ b.snd.fst.getD k.toNat (0 : Int) ≤ endN b.snd.fst b.fst k.toNat ∧ endN b.snd.fst b.fst k.toNat ≤ (↑v.length : Int)) ∧ List.take
  ((endN b.snd.fst b.fst k.toNat).toNat - (b.snd.fst.getD k.toNat (0 : Int)).toNat) (List.drop (b.snd.fst.getD k.toNat (0 : Int)).toNat v) = partS b.snd.fst b.fst k.toNat v) := by
  kernel_rfl
theorem chk_nf (b : Book) : fnwp (D1 []) 7 12 chkSp b = (True ∧ ((!cutB b.snd.fst b.fst) = true → (80 : Int) = checkS b) ∧ ((!cutB b.snd.fst b.fst) = false → ((!decide
  ((↑b.snd.snd.fst.length : Int) = (↑b.snd.fst.length : Int))) = true → (80 : Int) = checkS b) ∧ ((!decide ((↑b.snd.snd.fst.length : Int) = (↑b.snd.fst.length : Int))) = false → ∃
  (I : Int → Prop), ∃ (μ : Int → Nat), I (0 : Int) ∧ ∀ (x : Int), I x → (decide (x < (↑b.snd.fst.length : Int)) = true → ((0 : Int) ≤ x ∧ x < (↑b.snd.fst.length : Int)) ∧ isI64 (x
  + (1 : Int)) ∧ (decide (x + (1 : Int) < (↑b.snd.fst.length : Int)) = true → isI64 (x + (1 : Int)) ∧ ((0 : Int) ≤ x + (1 : Int) ∧ x + (1 : Int) < (↑b.snd.fst.length : Int)) ∧ ((0
  : Int) ≤ x ∧ x < (↑b.snd.snd.fst.length : Int)) ∧ (decide ((↑(b.snd.snd.fst.getD x.toNat []).length : Int) < (1 : Int)) = true → (80 : Int) = checkS b) ∧ (decide
  ((↑(b.snd.snd.fst.getD x.toNat []).length : Int) < (1 : Int)) = false → (decide ((256 : Int) < (↑(b.snd.snd.fst.getD x.toNat []).length : Int)) = true → (80 : Int) = checkS b) ∧
  (decide ((256 : Int) < (↑(b.snd.snd.fst.getD x.toNat []).length : Int)) = false → ∃ (I_1 : Int × Int × Int × Int → Prop), ∃ (μ_1 : Int × Int × Int × Int → Nat), I_1 ((0 : Int),
  x, b.snd.fst.getD x.toNat (0 : Int), b.snd.fst.getD (x + (1 : Int)).toNat (0 : Int)) ∧ ∀ (x_1 : Int × Int × Int × Int), I_1 x_1 → (decide (x_1.fst < (↑(b.snd.snd.fst.getD x.toNat
  []).length : Int)) = true → ((0 : Int) ≤ x_1.fst ∧ x_1.fst < (↑(b.snd.snd.fst.getD x.toNat []).length : Int)) ∧ isI64 (x_1.snd.snd.snd - x_1.snd.snd.fst) ∧ ((!decide
  ((↑((b.snd.snd.fst.getD x.toNat []).getD x_1.fst.toNat []).length : Int) = x_1.snd.snd.snd - x_1.snd.snd.fst)) = true → (decide ((0 : Int) ≤ x_1.fst) = true → (80 : Int) = checkS
  b) ∧ (decide ((0 : Int) ≤ x_1.fst) = false → isI64 (x + (1 : Int)) ∧ I (x + (1 : Int)) ∧ μ (x + (1 : Int)) < μ x)) ∧ ((!decide ((↑((b.snd.snd.fst.getD x.toNat []).getD
  x_1.fst.toNat []).length : Int) = x_1.snd.snd.snd - x_1.snd.snd.fst)) = false → True ∧ ((!vecOk ((b.snd.snd.fst.getD x.toNat []).getD x_1.fst.toNat [])) = true → (decide ((0 :
  Int) ≤ x_1.fst) = true → (80 : Int) = checkS b) ∧ (decide ((0 : Int) ≤ x_1.fst) = false → isI64 (x + (1 : Int)) ∧ I (x + (1 : Int)) ∧ μ (x + (1 : Int)) < μ x)) ∧ ((!vecOk
  ((b.snd.snd.fst.getD x.toNat []).getD x_1.fst.toNat [])) = false → isI64 (x_1.fst + (1 : Int)) ∧ I_1 (x_1.fst + (1 : Int), x_1.snd.fst, x_1.snd.snd.fst, x_1.snd.snd.snd) ∧ μ_1
  (x_1.fst + (1 : Int), x_1.snd.fst, x_1.snd.snd.fst, x_1.snd.snd.snd) < μ_1 x_1))) ∧ (decide (x_1.fst < (↑(b.snd.snd.fst.getD x.toNat []).length : Int)) = false → (false = true →
  (80 : Int) = checkS b) ∧ (false = false → isI64 (x + (1 : Int)) ∧ I (x + (1 : Int)) ∧ μ (x + (1 : Int)) < μ x))))) ∧ (decide (x + (1 : Int) < (↑b.snd.fst.length : Int)) = false →
  ((0 : Int) ≤ x ∧ x < (↑b.snd.snd.fst.length : Int)) ∧ (decide ((↑(b.snd.snd.fst.getD x.toNat []).length : Int) < (1 : Int)) = true → (80 : Int) = checkS b) ∧ (decide
  ((↑(b.snd.snd.fst.getD x.toNat []).length : Int) < (1 : Int)) = false → (decide ((256 : Int) < (↑(b.snd.snd.fst.getD x.toNat []).length : Int)) = true → (80 : Int) = checkS b) ∧
  (decide ((256 : Int) < (↑(b.snd.snd.fst.getD x.toNat []).length : Int)) = false → ∃ (I_1 : Int × Int × Int × Int → Prop), ∃ (μ_1 : Int × Int × Int × Int → Nat), I_1 ((0 : Int),
  x, b.snd.fst.getD x.toNat (0 : Int), b.fst) ∧ ∀ (x_1 : Int × Int × Int × Int), I_1 x_1 → (decide (x_1.fst < (↑(b.snd.snd.fst.getD x.toNat []).length : Int)) = true → ((0 : Int) ≤
  x_1.fst ∧ x_1.fst < (↑(b.snd.snd.fst.getD x.toNat []).length : Int)) ∧ isI64 (x_1.snd.snd.snd - x_1.snd.snd.fst) ∧ ((!decide ((↑((b.snd.snd.fst.getD x.toNat []).getD
  x_1.fst.toNat []).length : Int) = x_1.snd.snd.snd - x_1.snd.snd.fst)) = true → (decide ((0 : Int) ≤ x_1.fst) = true → (80 : Int) = checkS b) ∧ (decide ((0 : Int) ≤ x_1.fst) =
  false → isI64 (x + (1 : Int)) ∧ I (x + (1 : Int)) ∧ μ (x + (1 : Int)) < μ x)) ∧ ((!decide ((↑((b.snd.snd.fst.getD x.toNat []).getD x_1.fst.toNat []).length : Int) =
  x_1.snd.snd.snd - x_1.snd.snd.fst)) = false → True ∧ ((!vecOk ((b.snd.snd.fst.getD x.toNat []).getD x_1.fst.toNat [])) = true → (decide ((0 : Int) ≤ x_1.fst) = true → (80 : Int)
  = checkS b) ∧ (decide ((0 : Int) ≤ x_1.fst) = false → isI64 (x + (1 : Int)) ∧ I (x + (1 : Int)) ∧ μ (x + (1 : Int)) < μ x)) ∧ ((!vecOk ((b.snd.snd.fst.getD x.toNat []).getD
  x_1.fst.toNat [])) = false → isI64 (x_1.fst + (1 : Int)) ∧ I_1 (x_1.fst + (1 : Int), x_1.snd.fst, x_1.snd.snd.fst, x_1.snd.snd.snd) ∧ μ_1 (x_1.fst + (1 : Int), x_1.snd.fst,
  x_1.snd.snd.fst, x_1.snd.snd.snd) < μ_1 x_1))) ∧ (decide (x_1.fst < (↑(b.snd.snd.fst.getD x.toNat []).length : Int)) = false → (false = true → (80 : Int) = checkS b) ∧ (false =
  false → isI64 (x + (1 : Int)) ∧ I (x + (1 : Int)) ∧ μ (x + (1 : Int)) < μ x)))))) ∧ (decide (x < (↑b.snd.fst.length : Int)) = false → (0 : Int) = checkS b)))) := by kernel_rfl
theorem rChk_nf (b : Book) : fnwp (D1 []) 6 13 chkSp b = (True ∧ ((!cutB b.snd.fst b.fst) = true → (80 : Int) = checkS b) ∧ ((!cutB b.snd.fst b.fst) = false → ((!decide
  ((↑b.snd.snd.fst.length : Int) = (↑b.snd.fst.length : Int))) = true → (80 : Int) = checkS b) ∧ ((!decide ((↑b.snd.snd.fst.length : Int) = (↑b.snd.fst.length : Int))) = false → ∃
  (I : Int → Prop), ∃ (μ : Int → Nat), I (0 : Int) ∧ ∀ (x : Int), I x → (decide (x < (↑b.snd.fst.length : Int)) = true → ((0 : Int) ≤ x ∧ x < (↑b.snd.snd.fst.length : Int)) ∧
  (decide ((↑(b.snd.snd.fst.getD x.toNat []).length : Int) < (1 : Int)) = true → (80 : Int) = checkS b) ∧ (decide ((↑(b.snd.snd.fst.getD x.toNat []).length : Int) < (1 : Int)) =
  false → ((0 : Int) ≤ x ∧ x < (↑b.snd.snd.fst.length : Int)) ∧ (decide ((256 : Int) < (↑(b.snd.snd.fst.getD x.toNat []).length : Int)) = true → (80 : Int) = checkS b) ∧ (decide
  ((256 : Int) < (↑(b.snd.snd.fst.getD x.toNat []).length : Int)) = false → ∃ (I_1 : Int → Prop), ∃ (μ_1 : Int → Nat), I_1 (0 : Int) ∧ ∀ (x_1 : Int), I_1 x_1 → ((0 : Int) ≤ x ∧ x <
  (↑b.snd.snd.fst.length : Int)) ∧ (decide (x_1 < (↑(b.snd.snd.fst.getD x.toNat []).length : Int)) = true → ((0 : Int) ≤ x ∧ x < (↑b.snd.snd.fst.length : Int)) ∧ ((0 : Int) ≤ x_1 ∧
  x_1 < (↑(b.snd.snd.fst.getD x.toNat []).length : Int)) ∧ True ∧ ((!vecOk ((b.snd.snd.fst.getD x.toNat []).getD x_1.toNat [])) = true → (80 : Int) = checkS b) ∧ ((!vecOk
  ((b.snd.snd.fst.getD x.toNat []).getD x_1.toNat [])) = false → ((0 : Int) ≤ x ∧ x < (↑b.snd.snd.fst.length : Int)) ∧ ((0 : Int) ≤ x_1 ∧ x_1 < (↑(b.snd.snd.fst.getD x.toNat
  []).length : Int)) ∧ ((0 : Int) ≤ x ∧ x ≤ (1000 : Int)) ∧ ((0 : Int) ≤ x ∧ x < (↑b.snd.fst.length : Int)) ∧ isI64 (endN b.snd.fst b.fst x.toNat - b.snd.fst.getD x.toNat (0 :
  Int)) ∧ ((!decide ((↑((b.snd.snd.fst.getD x.toNat []).getD x_1.toNat []).length : Int) = endN b.snd.fst b.fst x.toNat - b.snd.fst.getD x.toNat (0 : Int))) = true → (80 : Int) =
  checkS b) ∧ ((!decide ((↑((b.snd.snd.fst.getD x.toNat []).getD x_1.toNat []).length : Int) = endN b.snd.fst b.fst x.toNat - b.snd.fst.getD x.toNat (0 : Int))) = false → isI64
  (x_1 + (1 : Int)) ∧ I_1 (x_1 + (1 : Int)) ∧ μ_1 (x_1 + (1 : Int)) < μ_1 x_1))) ∧ (decide (x_1 < (↑(b.snd.snd.fst.getD x.toNat []).length : Int)) = false → isI64 (x + (1 : Int)) ∧
  I (x + (1 : Int)) ∧ μ (x + (1 : Int)) < μ x)))) ∧ (decide (x < (↑b.snd.fst.length : Int)) = false → (0 : Int) = checkS b)))) := by kernel_rfl
theorem dec_nf (b : Book) (c : List Int) : fnwp (D1 []) 6 15 decSp (b, c) = (((!decide ((↑c.length : Int) = (↑b.snd.snd.fst.length : Int))) = true → ([], (1 : Int)) = decodeS b c)
  ∧ ((!decide ((↑c.length : Int) = (↑b.snd.snd.fst.length : Int))) = false → ∃ (I : List Int × Int → Prop), ∃ (μ : List Int × Int → Nat), I ([], (0 : Int)) ∧ ∀ (x : List Int ×
  Int), I x → (decide (x.snd < (↑c.length : Int)) = true → ((0 : Int) ≤ x.snd ∧ x.snd < (↑c.length : Int)) ∧ (decide (c.getD x.snd.toNat (0 : Int) < (0 : Int)) = true → ([], (1 :
  Int)) = decodeS b c) ∧ (decide (c.getD x.snd.toNat (0 : Int) < (0 : Int)) = false → ((0 : Int) ≤ x.snd ∧ x.snd < (↑b.snd.snd.fst.length : Int)) ∧ (decide ((↑(b.snd.snd.fst.getD
  x.snd.toNat []).length : Int) ≤ c.getD x.snd.toNat (0 : Int)) = true → ([], (1 : Int)) = decodeS b c) ∧ (decide ((↑(b.snd.snd.fst.getD x.snd.toNat []).length : Int) ≤ c.getD
  x.snd.toNat (0 : Int)) = false → ((0 : Int) ≤ x.snd ∧ x.snd < (↑b.snd.snd.fst.length : Int)) ∧ ((0 : Int) ≤ c.getD x.snd.toNat (0 : Int) ∧ c.getD x.snd.toNat (0 : Int) <
  (↑(b.snd.snd.fst.getD x.snd.toNat []).length : Int)) ∧ roomP (D1 []) (3 : Nat) (x.fst.length + ((b.snd.snd.fst.getD x.snd.toNat []).getD (c.getD x.snd.toNat (0 : Int)).toNat
  []).length) ∧ isI64 (x.snd + (1 : Int)) ∧ I (x.fst ++ (b.snd.snd.fst.getD x.snd.toNat []).getD (c.getD x.snd.toNat (0 : Int)).toNat [], x.snd + (1 : Int)) ∧ μ (x.fst ++
  (b.snd.snd.fst.getD x.snd.toNat []).getD (c.getD x.snd.toNat (0 : Int)).toNat [], x.snd + (1 : Int)) < μ x))) ∧ (decide (x.snd < (↑c.length : Int)) = false → (x.fst, (0 : Int)) =
  decodeS b c))) := by kernel_rfl
theorem rDec_nf (b : Book) (c : List Int) : fnwp (D1 []) 6 16 rDecSp (b, c) = (((!decide ((↑c.length : Int) = (↑b.snd.fst.length : Int))) = true → ([], (1 : Int), ()) = ((decodeS b
  c).fst, (decodeS b c).snd, ())) ∧ ((!decide ((↑c.length : Int) = (↑b.snd.fst.length : Int))) = false → ∃ (I : List Int × Int → Prop), ∃ (μ : List Int × Int → Nat), I ([], (0 :
  Int)) ∧ ∀ (x : List Int × Int), I x → (decide (x.snd < (↑c.length : Int)) = true → ((0 : Int) ≤ x.snd ∧ x.snd < (↑c.length : Int)) ∧ (decide (c.getD x.snd.toNat (0 : Int) < (0 :
  Int)) = true → ([], (1 : Int), ()) = ((decodeS b c).fst, (decodeS b c).snd, ())) ∧ (decide (c.getD x.snd.toNat (0 : Int) < (0 : Int)) = false → ((0 : Int) ≤ x.snd ∧ x.snd <
  (↑c.length : Int)) ∧ ((0 : Int) ≤ x.snd ∧ x.snd < (↑b.snd.snd.fst.length : Int)) ∧ (decide ((↑(b.snd.snd.fst.getD x.snd.toNat []).length : Int) ≤ c.getD x.snd.toNat (0 : Int)) =
  true → ([], (1 : Int), ()) = ((decodeS b c).fst, (decodeS b c).snd, ())) ∧ (decide ((↑(b.snd.snd.fst.getD x.snd.toNat []).length : Int) ≤ c.getD x.snd.toNat (0 : Int)) = false →
  ((0 : Int) ≤ x.snd ∧ x.snd < (↑b.snd.snd.fst.length : Int)) ∧ ((0 : Int) ≤ x.snd ∧ x.snd < (↑c.length : Int)) ∧ ((0 : Int) ≤ c.getD x.snd.toNat (0 : Int) ∧ c.getD x.snd.toNat (0
  : Int) < (↑(b.snd.snd.fst.getD x.snd.toNat []).length : Int)) ∧ roomP (D1 []) (3 : Nat) (x.fst.length + ((b.snd.snd.fst.getD x.snd.toNat []).getD (c.getD x.snd.toNat (0 :
  Int)).toNat []).length) ∧ isI64 (x.snd + (1 : Int)) ∧ I (x.fst ++ (b.snd.snd.fst.getD x.snd.toNat []).getD (c.getD x.snd.toNat (0 : Int)).toNat [], x.snd + (1 : Int)) ∧ μ (x.fst
  ++ (b.snd.snd.fst.getD x.snd.toNat []).getD (c.getD x.snd.toNat (0 : Int)).toNat [], x.snd + (1 : Int)) < μ x))) ∧ (decide (x.snd < (↑c.length : Int)) = false → (x.fst, (0 :
  Int), ()) = ((decodeS b c).fst, (decodeS b c).snd, ())))) := by kernel_rfl
theorem enc_nf (b : Book) (m : Int) (v : List Int) : fnwp (D1 [.gcell 0 0 3 I]) 7 18 encSp (b, m, v) = (∃ (I : Int × List Int → Prop), ∃ (μ : Int × List Int → Nat), I ((0 : Int),
  []) ∧ ∀ (x : Int × List Int), I x → (decide (x.fst < (↑b.snd.fst.length : Int)) = true → ((0 : Int) ≤ x.fst ∧ x.fst < (↑b.snd.fst.length : Int)) ∧ isI64 (x.fst + (1 : Int)) ∧
  (decide (x.fst + (1 : Int) < (↑b.snd.fst.length : Int)) = true → isI64 (x.fst + (1 : Int)) ∧ ((0 : Int) ≤ x.fst + (1 : Int) ∧ x.fst + (1 : Int) < (↑b.snd.fst.length : Int)) ∧ ((0
  : Int) ≤ x.fst ∧ x.fst < (↑b.snd.snd.fst.length : Int)) ∧ ((0 : Int) ≤ b.snd.fst.getD x.fst.toNat (0 : Int) ∧ b.snd.fst.getD x.fst.toNat (0 : Int) ≤ b.snd.fst.getD (x.fst + (1 :
  Int)).toNat (0 : Int) ∧ b.snd.fst.getD (x.fst + (1 : Int)).toNat (0 : Int) ≤ (↑v.length : Int)) ∧ (((1 : Int) ≤ m ∧ m ≤ (3 : Int)) ∧ ((1 : Nat) ≤ (b.snd.snd.fst.getD x.fst.toNat
  []).length ∧ (b.snd.snd.fst.getD x.fst.toNat []).length ≤ (1000 : Nat)) ∧ ∀ (i : Nat), i < (b.snd.snd.fst.getD x.fst.toNat []).length → alikeB ((b.snd.snd.fst.getD x.fst.toNat
  []).getD i []) (List.take ((b.snd.fst.getD (x.fst + (1 : Int)).toNat (0 : Int)).toNat - (b.snd.fst.getD x.fst.toNat (0 : Int)).toNat) (List.drop (b.snd.fst.getD x.fst.toNat (0 :
  Int)).toNat v)) = true) ∧ roomP (D1 [LA.gcell (0 : Nat) (0 : Nat) (3 : Nat) Ytjppchomonpfgaa.I]) (3 : Nat) (x.snd.length + [(↑(bestS m (b.snd.snd.fst.getD x.fst.toNat [])
  (List.take ((b.snd.fst.getD (x.fst + (1 : Int)).toNat (0 : Int)).toNat - (b.snd.fst.getD x.fst.toNat (0 : Int)).toNat) (List.drop (b.snd.fst.getD x.fst.toNat (0 : Int)).toNat
  v))) : Int)].length) ∧ isI64 (x.fst + (1 : Int)) ∧ I (x.fst + (1 : Int), x.snd ++ [(↑(bestS m (b.snd.snd.fst.getD x.fst.toNat []) (List.take ((b.snd.fst.getD (x.fst + (1 :
  Int)).toNat (0 : Int)).toNat - (b.snd.fst.getD x.fst.toNat (0 : Int)).toNat) (List.drop (b.snd.fst.getD x.fst.toNat (0 : Int)).toNat v))) : Int)]) ∧ μ (x.fst + (1 : Int), x.snd
  ++ [(↑(bestS m (b.snd.snd.fst.getD x.fst.toNat []) (List.take ((b.snd.fst.getD (x.fst + (1 : Int)).toNat (0 : Int)).toNat - (b.snd.fst.getD x.fst.toNat (0 : Int)).toNat)
  (List.drop (b.snd.fst.getD x.fst.toNat (0 : Int)).toNat v))) : Int)]) < μ x) ∧ (decide (x.fst + (1 : Int) < (↑b.snd.fst.length : Int)) = false → ((0 : Int) ≤ x.fst ∧ x.fst <
  (↑b.snd.snd.fst.length : Int)) ∧ ((0 : Int) ≤ b.snd.fst.getD x.fst.toNat (0 : Int) ∧ b.snd.fst.getD x.fst.toNat (0 : Int) ≤ b.fst ∧ b.fst ≤ (↑v.length : Int)) ∧ (((1 : Int) ≤ m ∧
  m ≤ (3 : Int)) ∧ ((1 : Nat) ≤ (b.snd.snd.fst.getD x.fst.toNat []).length ∧ (b.snd.snd.fst.getD x.fst.toNat []).length ≤ (1000 : Nat)) ∧ ∀ (i : Nat), i < (b.snd.snd.fst.getD
  x.fst.toNat []).length → alikeB ((b.snd.snd.fst.getD x.fst.toNat []).getD i []) (List.take (b.fst.toNat - (b.snd.fst.getD x.fst.toNat (0 : Int)).toNat) (List.drop (b.snd.fst.getD
  x.fst.toNat (0 : Int)).toNat v)) = true) ∧ roomP (D1 [LA.gcell (0 : Nat) (0 : Nat) (3 : Nat) Ytjppchomonpfgaa.I]) (3 : Nat) (x.snd.length + [(↑(bestS m (b.snd.snd.fst.getD
  x.fst.toNat []) (List.take (b.fst.toNat - (b.snd.fst.getD x.fst.toNat (0 : Int)).toNat) (List.drop (b.snd.fst.getD x.fst.toNat (0 : Int)).toNat v))) : Int)].length) ∧ isI64
  (x.fst + (1 : Int)) ∧ I (x.fst + (1 : Int), x.snd ++ [(↑(bestS m (b.snd.snd.fst.getD x.fst.toNat []) (List.take (b.fst.toNat - (b.snd.fst.getD x.fst.toNat (0 : Int)).toNat)
  (List.drop (b.snd.fst.getD x.fst.toNat (0 : Int)).toNat v))) : Int)]) ∧ μ (x.fst + (1 : Int), x.snd ++ [(↑(bestS m (b.snd.snd.fst.getD x.fst.toNat []) (List.take (b.fst.toNat -
  (b.snd.fst.getD x.fst.toNat (0 : Int)).toNat) (List.drop (b.snd.fst.getD x.fst.toNat (0 : Int)).toNat v))) : Int)]) < μ x)) ∧ (decide (x.fst < (↑b.snd.fst.length : Int)) = false
  → x.snd = encodeS b m v)) := by kernel_rfl
theorem rEnc_nf (b : Book) (m : Int) (v : List Int) : fnwp (D2 []) 6 19 encSp (b, m, v) = (∃ (I : List Int × Int → Prop), ∃ (μ : List Int × Int → Nat), I ([], (0 : Int)) ∧ ∀ (x :
  List Int × Int), I x → (decide (x.snd < (↑b.snd.fst.length : Int)) = true → ∃ (I_1 : List Int × Int × Int → Prop), ∃ (μ_1 : List Int × Int × Int → Nat), I_1 (x.fst, (0 : Int), (0
  : Int)) ∧ ∀ (x_1 : List Int × Int × Int), I_1 x_1 → ((0 : Int) ≤ x.snd ∧ x.snd < (↑b.snd.snd.fst.length : Int)) ∧ (decide (x_1.snd.snd < (↑(b.snd.snd.fst.getD x.snd.toNat
  []).length : Int)) = true → ((0 : Int) ≤ x.snd ∧ x.snd < (↑b.snd.snd.fst.length : Int)) ∧ ((0 : Int) ≤ x_1.snd.snd ∧ x_1.snd.snd < (↑(b.snd.snd.fst.getD x.snd.toNat []).length :
  Int)) ∧ ((0 : Int) ≤ x.snd ∧ x.snd < (↑b.snd.fst.length : Int) ∧ cutB b.snd.fst b.fst = true ∧ (↑v.length : Int) = b.fst) ∧ ((1 : Int) ≤ m ∧ m ≤ (3 : Int) ∧ small (64 : Nat)
  (4000 : Int) ((b.snd.snd.fst.getD x.snd.toNat []).getD x_1.snd.snd.toNat []) ∧ small (64 : Nat) (4000 : Int) (partS b.snd.fst b.fst x.snd.toNat v) ∧ ((b.snd.snd.fst.getD
  x.snd.toNat []).getD x_1.snd.snd.toNat []).length = (partS b.snd.fst b.fst x.snd.toNat v).length) ∧ ((0 : Int) ≤ x.snd ∧ x.snd < (↑b.snd.snd.fst.length : Int)) ∧ ((0 : Int) ≤
  x_1.snd.fst ∧ x_1.snd.fst < (↑(b.snd.snd.fst.getD x.snd.toNat []).length : Int)) ∧ ((0 : Int) ≤ x.snd ∧ x.snd < (↑b.snd.fst.length : Int) ∧ cutB b.snd.fst b.fst = true ∧
  (↑v.length : Int) = b.fst) ∧ ((1 : Int) ≤ m ∧ m ≤ (3 : Int) ∧ small (64 : Nat) (4000 : Int) ((b.snd.snd.fst.getD x.snd.toNat []).getD x_1.snd.fst.toNat []) ∧ small (64 : Nat)
  (4000 : Int) (partS b.snd.fst b.fst x.snd.toNat v) ∧ ((b.snd.snd.fst.getD x.snd.toNat []).getD x_1.snd.fst.toNat []).length = (partS b.snd.fst b.fst x.snd.toNat v).length) ∧
  (decide (keyS m ((b.snd.snd.fst.getD x.snd.toNat []).getD x_1.snd.snd.toNat []) (partS b.snd.fst b.fst x.snd.toNat v) < keyS m ((b.snd.snd.fst.getD x.snd.toNat []).getD
  x_1.snd.fst.toNat []) (partS b.snd.fst b.fst x.snd.toNat v)) = true → isI64 (x_1.snd.snd + (1 : Int)) ∧ I_1 (x_1.fst, x_1.snd.snd, x_1.snd.snd + (1 : Int)) ∧ μ_1 (x_1.fst,
  x_1.snd.snd, x_1.snd.snd + (1 : Int)) < μ_1 x_1) ∧ (decide (keyS m ((b.snd.snd.fst.getD x.snd.toNat []).getD x_1.snd.snd.toNat []) (partS b.snd.fst b.fst x.snd.toNat v) < keyS m
  ((b.snd.snd.fst.getD x.snd.toNat []).getD x_1.snd.fst.toNat []) (partS b.snd.fst b.fst x.snd.toNat v)) = false → isI64 (x_1.snd.snd + (1 : Int)) ∧ I_1 (x_1.fst, x_1.snd.fst,
  x_1.snd.snd + (1 : Int)) ∧ μ_1 (x_1.fst, x_1.snd.fst, x_1.snd.snd + (1 : Int)) < μ_1 x_1)) ∧ (decide (x_1.snd.snd < (↑(b.snd.snd.fst.getD x.snd.toNat []).length : Int)) = false →
  roomP (D2 []) (3 : Nat) (x_1.fst.length + [x_1.snd.fst].length) ∧ isI64 (x.snd + (1 : Int)) ∧ I (x_1.fst ++ [x_1.snd.fst], x.snd + (1 : Int)) ∧ μ (x_1.fst ++ [x_1.snd.fst], x.snd
  + (1 : Int)) < μ x)) ∧ (decide (x.snd < (↑b.snd.fst.length : Int)) = false → x.fst = encodeS b m v)) := by kernel_rfl
theorem res_nf (b : Book) (m : Int) (v : List Int) : fnwp (D1 [.cell 2 0 I]) 7 20 resSp (b, m, v) = ((((m = (1 : Int) → ∃ (I : Int × Int → Prop), ∃ (μ : Int × Int → Nat), I ((0 :
  Int), (0 : Int)) ∧ ∀ (x : Int × Int), I x → (decide (x.fst < (↑b.snd.fst.length : Int)) = true → ((0 : Int) ≤ x.fst ∧ x.fst < (↑b.snd.fst.length : Int)) ∧ isI64 (x.fst + (1 :
  Int)) ∧ (decide (x.fst + (1 : Int) < (↑b.snd.fst.length : Int)) = true → isI64 (x.fst + (1 : Int)) ∧ ((0 : Int) ≤ x.fst + (1 : Int) ∧ x.fst + (1 : Int) < (↑b.snd.fst.length :
  Int)) ∧ ((0 : Int) ≤ x.fst ∧ x.fst < (↑b.snd.snd.fst.length : Int)) ∧ ((0 : Int) ≤ b.snd.fst.getD x.fst.toNat (0 : Int) ∧ b.snd.fst.getD x.fst.toNat (0 : Int) ≤ b.snd.fst.getD
  (x.fst + (1 : Int)).toNat (0 : Int) ∧ b.snd.fst.getD (x.fst + (1 : Int)).toNat (0 : Int) ≤ (↑v.length : Int)) ∧ (((1 : Int) ≤ m ∧ m ≤ (3 : Int)) ∧ ((1 : Nat) ≤
  (b.snd.snd.fst.getD x.fst.toNat []).length ∧ (b.snd.snd.fst.getD x.fst.toNat []).length ≤ (1000 : Nat)) ∧ ∀ (i : Nat), i < (b.snd.snd.fst.getD x.fst.toNat []).length → alikeB
  ((b.snd.snd.fst.getD x.fst.toNat []).getD i []) (List.take ((b.snd.fst.getD (x.fst + (1 : Int)).toNat (0 : Int)).toNat - (b.snd.fst.getD x.fst.toNat (0 : Int)).toNat) (List.drop
  (b.snd.fst.getD x.fst.toNat (0 : Int)).toNat v)) = true) ∧ isI64 (x.snd + leastS m (b.snd.snd.fst.getD x.fst.toNat []) (List.take ((b.snd.fst.getD (x.fst + (1 : Int)).toNat (0 :
  Int)).toNat - (b.snd.fst.getD x.fst.toNat (0 : Int)).toNat) (List.drop (b.snd.fst.getD x.fst.toNat (0 : Int)).toNat v))) ∧ isI64 (x.fst + (1 : Int)) ∧ I (x.fst + (1 : Int), x.snd
  + leastS m (b.snd.snd.fst.getD x.fst.toNat []) (List.take ((b.snd.fst.getD (x.fst + (1 : Int)).toNat (0 : Int)).toNat - (b.snd.fst.getD x.fst.toNat (0 : Int)).toNat) (List.drop
  (b.snd.fst.getD x.fst.toNat (0 : Int)).toNat v))) ∧ μ (x.fst + (1 : Int), x.snd + leastS m (b.snd.snd.fst.getD x.fst.toNat []) (List.take ((b.snd.fst.getD (x.fst + (1 :
  Int)).toNat (0 : Int)).toNat - (b.snd.fst.getD x.fst.toNat (0 : Int)).toNat) (List.drop (b.snd.fst.getD x.fst.toNat (0 : Int)).toNat v))) < μ x) ∧ (decide (x.fst + (1 : Int) <
  (↑b.snd.fst.length : Int)) = false → ((0 : Int) ≤ x.fst ∧ x.fst < (↑b.snd.snd.fst.length : Int)) ∧ ((0 : Int) ≤ b.snd.fst.getD x.fst.toNat (0 : Int) ∧ b.snd.fst.getD x.fst.toNat
  (0 : Int) ≤ b.fst ∧ b.fst ≤ (↑v.length : Int)) ∧ (((1 : Int) ≤ m ∧ m ≤ (3 : Int)) ∧ ((1 : Nat) ≤ (b.snd.snd.fst.getD x.fst.toNat []).length ∧ (b.snd.snd.fst.getD x.fst.toNat
  []).length ≤ (1000 : Nat)) ∧ ∀ (i : Nat), i < (b.snd.snd.fst.getD x.fst.toNat []).length → alikeB ((b.snd.snd.fst.getD x.fst.toNat []).getD i []) (List.take (b.fst.toNat -
  (b.snd.fst.getD x.fst.toNat (0 : Int)).toNat) (List.drop (b.snd.fst.getD x.fst.toNat (0 : Int)).toNat v)) = true) ∧ isI64 (x.snd + leastS m (b.snd.snd.fst.getD x.fst.toNat [])
  (List.take (b.fst.toNat - (b.snd.fst.getD x.fst.toNat (0 : Int)).toNat) (List.drop (b.snd.fst.getD x.fst.toNat (0 : Int)).toNat v))) ∧ isI64 (x.fst + (1 : Int)) ∧ I (x.fst + (1 :
  Int), x.snd + leastS m (b.snd.snd.fst.getD x.fst.toNat []) (List.take (b.fst.toNat - (b.snd.fst.getD x.fst.toNat (0 : Int)).toNat) (List.drop (b.snd.fst.getD x.fst.toNat (0 :
  Int)).toNat v))) ∧ μ (x.fst + (1 : Int), x.snd + leastS m (b.snd.snd.fst.getD x.fst.toNat []) (List.take (b.fst.toNat - (b.snd.fst.getD x.fst.toNat (0 : Int)).toNat) (List.drop
  (b.snd.fst.getD x.fst.toNat (0 : Int)).toNat v))) < μ x)) ∧ (decide (x.fst < (↑b.snd.fst.length : Int)) = false → x.snd = residS b m v)) ∧ (¬m = (1 : Int) → (m = (2 : Int) → ∃ (I
  : Int × Int → Prop), ∃ (μ : Int × Int → Nat), I ((0 : Int), (0 : Int)) ∧ ∀ (x : Int × Int), I x → (decide (x.fst < (↑b.snd.fst.length : Int)) = true → ((0 : Int) ≤ x.fst ∧ x.fst
  < (↑b.snd.fst.length : Int)) ∧ isI64 (x.fst + (1 : Int)) ∧ (decide (x.fst + (1 : Int) < (↑b.snd.fst.length : Int)) = true → isI64 (x.fst + (1 : Int)) ∧ ((0 : Int) ≤ x.fst + (1 :
  Int) ∧ x.fst + (1 : Int) < (↑b.snd.fst.length : Int)) ∧ ((0 : Int) ≤ x.fst ∧ x.fst < (↑b.snd.snd.fst.length : Int)) ∧ ((0 : Int) ≤ b.snd.fst.getD x.fst.toNat (0 : Int) ∧
  b.snd.fst.getD x.fst.toNat (0 : Int) ≤ b.snd.fst.getD (x.fst + (1 : Int)).toNat (0 : Int) ∧ b.snd.fst.getD (x.fst + (1 : Int)).toNat (0 : Int) ≤ (↑v.length : Int)) ∧ (((1 : Int)
  ≤ m ∧ m ≤ (3 : Int)) ∧ ((1 : Nat) ≤ (b.snd.snd.fst.getD x.fst.toNat []).length ∧ (b.snd.snd.fst.getD x.fst.toNat []).length ≤ (1000 : Nat)) ∧ ∀ (i : Nat), i < (b.snd.snd.fst.getD
  x.fst.toNat []).length → alikeB ((b.snd.snd.fst.getD x.fst.toNat []).getD i []) (List.take ((b.snd.fst.getD (x.fst + (1 : Int)).toNat (0 : Int)).toNat - (b.snd.fst.getD
  x.fst.toNat (0 : Int)).toNat) (List.drop (b.snd.fst.getD x.fst.toNat (0 : Int)).toNat v)) = true) ∧ isI64 (x.snd + leastS m (b.snd.snd.fst.getD x.fst.toNat []) (List.take
  ((b.snd.fst.getD (x.fst + (1 : Int)).toNat (0 : Int)).toNat - (b.snd.fst.getD x.fst.toNat (0 : Int)).toNat) (List.drop (b.snd.fst.getD x.fst.toNat (0 : Int)).toNat v))) ∧ isI64
  (x.fst + (1 : Int)) ∧ I (x.fst + (1 : Int), x.snd + leastS m (b.snd.snd.fst.getD x.fst.toNat []) (List.take ((b.snd.fst.getD (x.fst + (1 : Int)).toNat (0 : Int)).toNat -
  (b.snd.fst.getD x.fst.toNat (0 : Int)).toNat) (List.drop (b.snd.fst.getD x.fst.toNat (0 : Int)).toNat v))) ∧ μ (x.fst + (1 : Int), x.snd + leastS m (b.snd.snd.fst.getD
  x.fst.toNat []) (List.take ((b.snd.fst.getD (x.fst + (1 : Int)).toNat (0 : Int)).toNat - (b.snd.fst.getD x.fst.toNat (0 : Int)).toNat) (List.drop (b.snd.fst.getD x.fst.toNat (0 :
  Int)).toNat v))) < μ x) ∧ (decide (x.fst + (1 : Int) < (↑b.snd.fst.length : Int)) = false → ((0 : Int) ≤ x.fst ∧ x.fst < (↑b.snd.snd.fst.length : Int)) ∧ ((0 : Int) ≤
  b.snd.fst.getD x.fst.toNat (0 : Int) ∧ b.snd.fst.getD x.fst.toNat (0 : Int) ≤ b.fst ∧ b.fst ≤ (↑v.length : Int)) ∧ (((1 : Int) ≤ m ∧ m ≤ (3 : Int)) ∧ ((1 : Nat) ≤
  (b.snd.snd.fst.getD x.fst.toNat []).length ∧ (b.snd.snd.fst.getD x.fst.toNat []).length ≤ (1000 : Nat)) ∧ ∀ (i : Nat), i < (b.snd.snd.fst.getD x.fst.toNat []).length → alikeB
  ((b.snd.snd.fst.getD x.fst.toNat []).getD i []) (List.take (b.fst.toNat - (b.snd.fst.getD x.fst.toNat (0 : Int)).toNat) (List.drop (b.snd.fst.getD x.fst.toNat (0 : Int)).toNat
  v)) = true) ∧ isI64 (x.snd + leastS m (b.snd.snd.fst.getD x.fst.toNat []) (List.take (b.fst.toNat - (b.snd.fst.getD x.fst.toNat (0 : Int)).toNat) (List.drop (b.snd.fst.getD
  x.fst.toNat (0 : Int)).toNat v))) ∧ isI64 (x.fst + (1 : Int)) ∧ I (x.fst + (1 : Int), x.snd + leastS m (b.snd.snd.fst.getD x.fst.toNat []) (List.take (b.fst.toNat -
  (b.snd.fst.getD x.fst.toNat (0 : Int)).toNat) (List.drop (b.snd.fst.getD x.fst.toNat (0 : Int)).toNat v))) ∧ μ (x.fst + (1 : Int), x.snd + leastS m (b.snd.snd.fst.getD
  x.fst.toNat []) (List.take (b.fst.toNat - (b.snd.fst.getD x.fst.toNat (0 : Int)).toNat) (List.drop (b.snd.fst.getD x.fst.toNat (0 : Int)).toNat v))) < μ x)) ∧ (decide (x.fst <
  (↑b.snd.fst.length : Int)) = false → x.snd = residS b m v)) ∧ (¬m = (2 : Int) → (m = (3 : Int) → ∃ (I : Int × Int → Prop), ∃ (μ : Int × Int → Nat), I ((0 : Int), (0 : Int)) ∧ ∀
  (x : Int × Int), I x → (decide (x.fst < (↑b.snd.fst.length : Int)) = true → ((0 : Int) ≤ x.fst ∧ x.fst < (↑b.snd.fst.length : Int)) ∧ isI64 (x.fst + (1 : Int)) ∧ (decide (x.fst +
  (1 : Int) < (↑b.snd.fst.length : Int)) = true → isI64 (x.fst + (1 : Int)) ∧ ((0 : Int) ≤ x.fst + (1 : Int) ∧ x.fst + (1 : Int) < (↑b.snd.fst.length : Int)) ∧ ((0 : Int) ≤ x.fst ∧
  x.fst < (↑b.snd.snd.fst.length : Int)) ∧ ((0 : Int) ≤ b.snd.fst.getD x.fst.toNat (0 : Int) ∧ b.snd.fst.getD x.fst.toNat (0 : Int) ≤ b.snd.fst.getD (x.fst + (1 : Int)).toNat (0 :
  Int) ∧ b.snd.fst.getD (x.fst + (1 : Int)).toNat (0 : Int) ≤ (↑v.length : Int)) ∧ (((1 : Int) ≤ m ∧ m ≤ (3 : Int)) ∧ ((1 : Nat) ≤ (b.snd.snd.fst.getD x.fst.toNat []).length ∧
  (b.snd.snd.fst.getD x.fst.toNat []).length ≤ (1000 : Nat)) ∧ ∀ (i : Nat), i < (b.snd.snd.fst.getD x.fst.toNat []).length → alikeB ((b.snd.snd.fst.getD x.fst.toNat []).getD i [])
  (List.take ((b.snd.fst.getD (x.fst + (1 : Int)).toNat (0 : Int)).toNat - (b.snd.fst.getD x.fst.toNat (0 : Int)).toNat) (List.drop (b.snd.fst.getD x.fst.toNat (0 : Int)).toNat v))
  = true) ∧ isI64 (x.fst + (1 : Int)) ∧ I (x.fst + (1 : Int), max x.snd (leastS m (b.snd.snd.fst.getD x.fst.toNat []) (List.take ((b.snd.fst.getD (x.fst + (1 : Int)).toNat (0 :
  Int)).toNat - (b.snd.fst.getD x.fst.toNat (0 : Int)).toNat) (List.drop (b.snd.fst.getD x.fst.toNat (0 : Int)).toNat v)))) ∧ μ (x.fst + (1 : Int), max x.snd (leastS m
  (b.snd.snd.fst.getD x.fst.toNat []) (List.take ((b.snd.fst.getD (x.fst + (1 : Int)).toNat (0 : Int)).toNat - (b.snd.fst.getD x.fst.toNat (0 : Int)).toNat) (List.drop
  (b.snd.fst.getD x.fst.toNat (0 : Int)).toNat v)))) < μ x) ∧ (decide (x.fst + (1 : Int) < (↑b.snd.fst.length : Int)) = false → ((0 : Int) ≤ x.fst ∧ x.fst < (↑b.snd.snd.fst.length
  : Int)) ∧ ((0 : Int) ≤ b.snd.fst.getD x.fst.toNat (0 : Int) ∧ b.snd.fst.getD x.fst.toNat (0 : Int) ≤ b.fst ∧ b.fst ≤ (↑v.length : Int)) ∧ (((1 : Int) ≤ m ∧ m ≤ (3 : Int)) ∧ ((1 :
  Nat) ≤ (b.snd.snd.fst.getD x.fst.toNat []).length ∧ (b.snd.snd.fst.getD x.fst.toNat []).length ≤ (1000 : Nat)) ∧ ∀ (i : Nat), i < (b.snd.snd.fst.getD x.fst.toNat []).length →
  alikeB ((b.snd.snd.fst.getD x.fst.toNat []).getD i []) (List.take (b.fst.toNat - (b.snd.fst.getD x.fst.toNat (0 : Int)).toNat) (List.drop (b.snd.fst.getD x.fst.toNat (0 :
  Int)).toNat v)) = true) ∧ isI64 (x.fst + (1 : Int)) ∧ I (x.fst + (1 : Int), max x.snd (leastS m (b.snd.snd.fst.getD x.fst.toNat []) (List.take (b.fst.toNat - (b.snd.fst.getD
  x.fst.toNat (0 : Int)).toNat) (List.drop (b.snd.fst.getD x.fst.toNat (0 : Int)).toNat v)))) ∧ μ (x.fst + (1 : Int), max x.snd (leastS m (b.snd.snd.fst.getD x.fst.toNat [])
  (List.take (b.fst.toNat - (b.snd.fst.getD x.fst.toNat (0 : Int)).toNat) (List.drop (b.snd.fst.getD x.fst.toNat (0 : Int)).toNat v)))) < μ x)) ∧ (decide (x.fst <
  (↑b.snd.fst.length : Int)) = false → x.snd = residS b m v)) ∧ (¬m = (3 : Int) → ∃ (I : Int × Int → Prop), ∃ (μ : Int × Int → Nat), I ((0 : Int), (0 : Int)) ∧ ∀ (x : Int × Int), I
  x → (decide (x.fst < (↑b.snd.fst.length : Int)) = true → ((0 : Int) ≤ x.fst ∧ x.fst < (↑b.snd.fst.length : Int)) ∧ isI64 (x.fst + (1 : Int)) ∧ (decide (x.fst + (1 : Int) <
  (↑b.snd.fst.length : Int)) = true → isI64 (x.fst + (1 : Int)) ∧ ((0 : Int) ≤ x.fst + (1 : Int) ∧ x.fst + (1 : Int) < (↑b.snd.fst.length : Int)) ∧ ((0 : Int) ≤ x.fst ∧ x.fst <
  (↑b.snd.snd.fst.length : Int)) ∧ ((0 : Int) ≤ b.snd.fst.getD x.fst.toNat (0 : Int) ∧ b.snd.fst.getD x.fst.toNat (0 : Int) ≤ b.snd.fst.getD (x.fst + (1 : Int)).toNat (0 : Int) ∧
  b.snd.fst.getD (x.fst + (1 : Int)).toNat (0 : Int) ≤ (↑v.length : Int)) ∧ (((1 : Int) ≤ m ∧ m ≤ (3 : Int)) ∧ ((1 : Nat) ≤ (b.snd.snd.fst.getD x.fst.toNat []).length ∧
  (b.snd.snd.fst.getD x.fst.toNat []).length ≤ (1000 : Nat)) ∧ ∀ (i : Nat), i < (b.snd.snd.fst.getD x.fst.toNat []).length → alikeB ((b.snd.snd.fst.getD x.fst.toNat []).getD i [])
  (List.take ((b.snd.fst.getD (x.fst + (1 : Int)).toNat (0 : Int)).toNat - (b.snd.fst.getD x.fst.toNat (0 : Int)).toNat) (List.drop (b.snd.fst.getD x.fst.toNat (0 : Int)).toNat v))
  = true) ∧ False) ∧ (decide (x.fst + (1 : Int) < (↑b.snd.fst.length : Int)) = false → ((0 : Int) ≤ x.fst ∧ x.fst < (↑b.snd.snd.fst.length : Int)) ∧ ((0 : Int) ≤ b.snd.fst.getD
  x.fst.toNat (0 : Int) ∧ b.snd.fst.getD x.fst.toNat (0 : Int) ≤ b.fst ∧ b.fst ≤ (↑v.length : Int)) ∧ (((1 : Int) ≤ m ∧ m ≤ (3 : Int)) ∧ ((1 : Nat) ≤ (b.snd.snd.fst.getD
  x.fst.toNat []).length ∧ (b.snd.snd.fst.getD x.fst.toNat []).length ≤ (1000 : Nat)) ∧ ∀ (i : Nat), i < (b.snd.snd.fst.getD x.fst.toNat []).length → alikeB ((b.snd.snd.fst.getD
  x.fst.toNat []).getD i []) (List.take (b.fst.toNat - (b.snd.fst.getD x.fst.toNat (0 : Int)).toNat) (List.drop (b.snd.fst.getD x.fst.toNat (0 : Int)).toNat v)) = true) ∧ False)) ∧
  (decide (x.fst < (↑b.snd.fst.length : Int)) = false → x.snd = residS b m v))))) ∧ (m = (1 : Int) → ∃ (I : Int × Int → Prop), ∃ (μ : Int × Int → Nat), I ((0 : Int), (0 : Int)) ∧ ∀
  (x : Int × Int), I x → (decide (x.fst < (↑b.snd.fst.length : Int)) = true → ((0 : Int) ≤ x.fst ∧ x.fst < (↑b.snd.fst.length : Int)) ∧ isI64 (x.fst + (1 : Int)) ∧ (decide (x.fst +
  (1 : Int) < (↑b.snd.fst.length : Int)) = true → isI64 (x.fst + (1 : Int)) ∧ ((0 : Int) ≤ x.fst + (1 : Int) ∧ x.fst + (1 : Int) < (↑b.snd.fst.length : Int)) ∧ ((0 : Int) ≤ x.fst ∧
  x.fst < (↑b.snd.snd.fst.length : Int)) ∧ ((0 : Int) ≤ b.snd.fst.getD x.fst.toNat (0 : Int) ∧ b.snd.fst.getD x.fst.toNat (0 : Int) ≤ b.snd.fst.getD (x.fst + (1 : Int)).toNat (0 :
  Int) ∧ b.snd.fst.getD (x.fst + (1 : Int)).toNat (0 : Int) ≤ (↑v.length : Int)) ∧ (((1 : Int) ≤ m ∧ m ≤ (3 : Int)) ∧ ((1 : Nat) ≤ (b.snd.snd.fst.getD x.fst.toNat []).length ∧
  (b.snd.snd.fst.getD x.fst.toNat []).length ≤ (1000 : Nat)) ∧ ∀ (i : Nat), i < (b.snd.snd.fst.getD x.fst.toNat []).length → alikeB ((b.snd.snd.fst.getD x.fst.toNat []).getD i [])
  (List.take ((b.snd.fst.getD (x.fst + (1 : Int)).toNat (0 : Int)).toNat - (b.snd.fst.getD x.fst.toNat (0 : Int)).toNat) (List.drop (b.snd.fst.getD x.fst.toNat (0 : Int)).toNat v))
  = true) ∧ isI64 (x.snd + leastS m (b.snd.snd.fst.getD x.fst.toNat []) (List.take ((b.snd.fst.getD (x.fst + (1 : Int)).toNat (0 : Int)).toNat - (b.snd.fst.getD x.fst.toNat (0 :
  Int)).toNat) (List.drop (b.snd.fst.getD x.fst.toNat (0 : Int)).toNat v))) ∧ isI64 (x.fst + (1 : Int)) ∧ I (x.fst + (1 : Int), x.snd + leastS m (b.snd.snd.fst.getD x.fst.toNat [])
  (List.take ((b.snd.fst.getD (x.fst + (1 : Int)).toNat (0 : Int)).toNat - (b.snd.fst.getD x.fst.toNat (0 : Int)).toNat) (List.drop (b.snd.fst.getD x.fst.toNat (0 : Int)).toNat
  v))) ∧ μ (x.fst + (1 : Int), x.snd + leastS m (b.snd.snd.fst.getD x.fst.toNat []) (List.take ((b.snd.fst.getD (x.fst + (1 : Int)).toNat (0 : Int)).toNat - (b.snd.fst.getD
  x.fst.toNat (0 : Int)).toNat) (List.drop (b.snd.fst.getD x.fst.toNat (0 : Int)).toNat v))) < μ x) ∧ (decide (x.fst + (1 : Int) < (↑b.snd.fst.length : Int)) = false → ((0 : Int) ≤
  x.fst ∧ x.fst < (↑b.snd.snd.fst.length : Int)) ∧ ((0 : Int) ≤ b.snd.fst.getD x.fst.toNat (0 : Int) ∧ b.snd.fst.getD x.fst.toNat (0 : Int) ≤ b.fst ∧ b.fst ≤ (↑v.length : Int)) ∧
  (((1 : Int) ≤ m ∧ m ≤ (3 : Int)) ∧ ((1 : Nat) ≤ (b.snd.snd.fst.getD x.fst.toNat []).length ∧ (b.snd.snd.fst.getD x.fst.toNat []).length ≤ (1000 : Nat)) ∧ ∀ (i : Nat), i <
  (b.snd.snd.fst.getD x.fst.toNat []).length → alikeB ((b.snd.snd.fst.getD x.fst.toNat []).getD i []) (List.take (b.fst.toNat - (b.snd.fst.getD x.fst.toNat (0 : Int)).toNat)
  (List.drop (b.snd.fst.getD x.fst.toNat (0 : Int)).toNat v)) = true) ∧ isI64 (x.snd + leastS m (b.snd.snd.fst.getD x.fst.toNat []) (List.take (b.fst.toNat - (b.snd.fst.getD
  x.fst.toNat (0 : Int)).toNat) (List.drop (b.snd.fst.getD x.fst.toNat (0 : Int)).toNat v))) ∧ isI64 (x.fst + (1 : Int)) ∧ I (x.fst + (1 : Int), x.snd + leastS m
  (b.snd.snd.fst.getD x.fst.toNat []) (List.take (b.fst.toNat - (b.snd.fst.getD x.fst.toNat (0 : Int)).toNat) (List.drop (b.snd.fst.getD x.fst.toNat (0 : Int)).toNat v))) ∧ μ
  (x.fst + (1 : Int), x.snd + leastS m (b.snd.snd.fst.getD x.fst.toNat []) (List.take (b.fst.toNat - (b.snd.fst.getD x.fst.toNat (0 : Int)).toNat) (List.drop (b.snd.fst.getD
  x.fst.toNat (0 : Int)).toNat v))) < μ x)) ∧ (decide (x.fst < (↑b.snd.fst.length : Int)) = false → x.snd = residS b m v)) ∧ (¬m = (1 : Int) → (m = (2 : Int) → ∃ (I : Int × Int →
  Prop), ∃ (μ : Int × Int → Nat), I ((0 : Int), (0 : Int)) ∧ ∀ (x : Int × Int), I x → (decide (x.fst < (↑b.snd.fst.length : Int)) = true → ((0 : Int) ≤ x.fst ∧ x.fst <
  (↑b.snd.fst.length : Int)) ∧ isI64 (x.fst + (1 : Int)) ∧ (decide (x.fst + (1 : Int) < (↑b.snd.fst.length : Int)) = true → isI64 (x.fst + (1 : Int)) ∧ ((0 : Int) ≤ x.fst + (1 :
  Int) ∧ x.fst + (1 : Int) < (↑b.snd.fst.length : Int)) ∧ ((0 : Int) ≤ x.fst ∧ x.fst < (↑b.snd.snd.fst.length : Int)) ∧ ((0 : Int) ≤ b.snd.fst.getD x.fst.toNat (0 : Int) ∧
  b.snd.fst.getD x.fst.toNat (0 : Int) ≤ b.snd.fst.getD (x.fst + (1 : Int)).toNat (0 : Int) ∧ b.snd.fst.getD (x.fst + (1 : Int)).toNat (0 : Int) ≤ (↑v.length : Int)) ∧ (((1 : Int)
  ≤ m ∧ m ≤ (3 : Int)) ∧ ((1 : Nat) ≤ (b.snd.snd.fst.getD x.fst.toNat []).length ∧ (b.snd.snd.fst.getD x.fst.toNat []).length ≤ (1000 : Nat)) ∧ ∀ (i : Nat), i < (b.snd.snd.fst.getD
  x.fst.toNat []).length → alikeB ((b.snd.snd.fst.getD x.fst.toNat []).getD i []) (List.take ((b.snd.fst.getD (x.fst + (1 : Int)).toNat (0 : Int)).toNat - (b.snd.fst.getD
  x.fst.toNat (0 : Int)).toNat) (List.drop (b.snd.fst.getD x.fst.toNat (0 : Int)).toNat v)) = true) ∧ isI64 (x.snd + leastS m (b.snd.snd.fst.getD x.fst.toNat []) (List.take
  ((b.snd.fst.getD (x.fst + (1 : Int)).toNat (0 : Int)).toNat - (b.snd.fst.getD x.fst.toNat (0 : Int)).toNat) (List.drop (b.snd.fst.getD x.fst.toNat (0 : Int)).toNat v))) ∧ isI64
  (x.fst + (1 : Int)) ∧ I (x.fst + (1 : Int), x.snd + leastS m (b.snd.snd.fst.getD x.fst.toNat []) (List.take ((b.snd.fst.getD (x.fst + (1 : Int)).toNat (0 : Int)).toNat -
  (b.snd.fst.getD x.fst.toNat (0 : Int)).toNat) (List.drop (b.snd.fst.getD x.fst.toNat (0 : Int)).toNat v))) ∧ μ (x.fst + (1 : Int), x.snd + leastS m (b.snd.snd.fst.getD
  x.fst.toNat []) (List.take ((b.snd.fst.getD (x.fst + (1 : Int)).toNat (0 : Int)).toNat - (b.snd.fst.getD x.fst.toNat (0 : Int)).toNat) (List.drop (b.snd.fst.getD x.fst.toNat (0 :
  Int)).toNat v))) < μ x) ∧ (decide (x.fst + (1 : Int) < (↑b.snd.fst.length : Int)) = false → ((0 : Int) ≤ x.fst ∧ x.fst < (↑b.snd.snd.fst.length : Int)) ∧ ((0 : Int) ≤
  b.snd.fst.getD x.fst.toNat (0 : Int) ∧ b.snd.fst.getD x.fst.toNat (0 : Int) ≤ b.fst ∧ b.fst ≤ (↑v.length : Int)) ∧ (((1 : Int) ≤ m ∧ m ≤ (3 : Int)) ∧ ((1 : Nat) ≤
  (b.snd.snd.fst.getD x.fst.toNat []).length ∧ (b.snd.snd.fst.getD x.fst.toNat []).length ≤ (1000 : Nat)) ∧ ∀ (i : Nat), i < (b.snd.snd.fst.getD x.fst.toNat []).length → alikeB
  ((b.snd.snd.fst.getD x.fst.toNat []).getD i []) (List.take (b.fst.toNat - (b.snd.fst.getD x.fst.toNat (0 : Int)).toNat) (List.drop (b.snd.fst.getD x.fst.toNat (0 : Int)).toNat
  v)) = true) ∧ isI64 (x.snd + leastS m (b.snd.snd.fst.getD x.fst.toNat []) (List.take (b.fst.toNat - (b.snd.fst.getD x.fst.toNat (0 : Int)).toNat) (List.drop (b.snd.fst.getD
  x.fst.toNat (0 : Int)).toNat v))) ∧ isI64 (x.fst + (1 : Int)) ∧ I (x.fst + (1 : Int), x.snd + leastS m (b.snd.snd.fst.getD x.fst.toNat []) (List.take (b.fst.toNat -
  (b.snd.fst.getD x.fst.toNat (0 : Int)).toNat) (List.drop (b.snd.fst.getD x.fst.toNat (0 : Int)).toNat v))) ∧ μ (x.fst + (1 : Int), x.snd + leastS m (b.snd.snd.fst.getD
  x.fst.toNat []) (List.take (b.fst.toNat - (b.snd.fst.getD x.fst.toNat (0 : Int)).toNat) (List.drop (b.snd.fst.getD x.fst.toNat (0 : Int)).toNat v))) < μ x)) ∧ (decide (x.fst <
  (↑b.snd.fst.length : Int)) = false → x.snd = residS b m v)) ∧ (¬m = (2 : Int) → (m = (3 : Int) → ∃ (I : Int × Int → Prop), ∃ (μ : Int × Int → Nat), I ((0 : Int), (0 : Int)) ∧ ∀
  (x : Int × Int), I x → (decide (x.fst < (↑b.snd.fst.length : Int)) = true → ((0 : Int) ≤ x.fst ∧ x.fst < (↑b.snd.fst.length : Int)) ∧ isI64 (x.fst + (1 : Int)) ∧ (decide (x.fst +
  (1 : Int) < (↑b.snd.fst.length : Int)) = true → isI64 (x.fst + (1 : Int)) ∧ ((0 : Int) ≤ x.fst + (1 : Int) ∧ x.fst + (1 : Int) < (↑b.snd.fst.length : Int)) ∧ ((0 : Int) ≤ x.fst ∧
  x.fst < (↑b.snd.snd.fst.length : Int)) ∧ ((0 : Int) ≤ b.snd.fst.getD x.fst.toNat (0 : Int) ∧ b.snd.fst.getD x.fst.toNat (0 : Int) ≤ b.snd.fst.getD (x.fst + (1 : Int)).toNat (0 :
  Int) ∧ b.snd.fst.getD (x.fst + (1 : Int)).toNat (0 : Int) ≤ (↑v.length : Int)) ∧ (((1 : Int) ≤ m ∧ m ≤ (3 : Int)) ∧ ((1 : Nat) ≤ (b.snd.snd.fst.getD x.fst.toNat []).length ∧
  (b.snd.snd.fst.getD x.fst.toNat []).length ≤ (1000 : Nat)) ∧ ∀ (i : Nat), i < (b.snd.snd.fst.getD x.fst.toNat []).length → alikeB ((b.snd.snd.fst.getD x.fst.toNat []).getD i [])
  (List.take ((b.snd.fst.getD (x.fst + (1 : Int)).toNat (0 : Int)).toNat - (b.snd.fst.getD x.fst.toNat (0 : Int)).toNat) (List.drop (b.snd.fst.getD x.fst.toNat (0 : Int)).toNat v))
  = true) ∧ isI64 (x.fst + (1 : Int)) ∧ I (x.fst + (1 : Int), max x.snd (leastS m (b.snd.snd.fst.getD x.fst.toNat []) (List.take ((b.snd.fst.getD (x.fst + (1 : Int)).toNat (0 :
  Int)).toNat - (b.snd.fst.getD x.fst.toNat (0 : Int)).toNat) (List.drop (b.snd.fst.getD x.fst.toNat (0 : Int)).toNat v)))) ∧ μ (x.fst + (1 : Int), max x.snd (leastS m
  (b.snd.snd.fst.getD x.fst.toNat []) (List.take ((b.snd.fst.getD (x.fst + (1 : Int)).toNat (0 : Int)).toNat - (b.snd.fst.getD x.fst.toNat (0 : Int)).toNat) (List.drop
  (b.snd.fst.getD x.fst.toNat (0 : Int)).toNat v)))) < μ x) ∧ (decide (x.fst + (1 : Int) < (↑b.snd.fst.length : Int)) = false → ((0 : Int) ≤ x.fst ∧ x.fst < (↑b.snd.snd.fst.length
  : Int)) ∧ ((0 : Int) ≤ b.snd.fst.getD x.fst.toNat (0 : Int) ∧ b.snd.fst.getD x.fst.toNat (0 : Int) ≤ b.fst ∧ b.fst ≤ (↑v.length : Int)) ∧ (((1 : Int) ≤ m ∧ m ≤ (3 : Int)) ∧ ((1 :
  Nat) ≤ (b.snd.snd.fst.getD x.fst.toNat []).length ∧ (b.snd.snd.fst.getD x.fst.toNat []).length ≤ (1000 : Nat)) ∧ ∀ (i : Nat), i < (b.snd.snd.fst.getD x.fst.toNat []).length →
  alikeB ((b.snd.snd.fst.getD x.fst.toNat []).getD i []) (List.take (b.fst.toNat - (b.snd.fst.getD x.fst.toNat (0 : Int)).toNat) (List.drop (b.snd.fst.getD x.fst.toNat (0 :
  Int)).toNat v)) = true) ∧ isI64 (x.fst + (1 : Int)) ∧ I (x.fst + (1 : Int), max x.snd (leastS m (b.snd.snd.fst.getD x.fst.toNat []) (List.take (b.fst.toNat - (b.snd.fst.getD
  x.fst.toNat (0 : Int)).toNat) (List.drop (b.snd.fst.getD x.fst.toNat (0 : Int)).toNat v)))) ∧ μ (x.fst + (1 : Int), max x.snd (leastS m (b.snd.snd.fst.getD x.fst.toNat [])
  (List.take (b.fst.toNat - (b.snd.fst.getD x.fst.toNat (0 : Int)).toNat) (List.drop (b.snd.fst.getD x.fst.toNat (0 : Int)).toNat v)))) < μ x)) ∧ (decide (x.fst <
  (↑b.snd.fst.length : Int)) = false → x.snd = residS b m v)) ∧ (¬m = (3 : Int) → ∃ (I : Int × Int → Prop), ∃ (μ : Int × Int → Nat), I ((0 : Int), (0 : Int)) ∧ ∀ (x : Int × Int), I
  x → (decide (x.fst < (↑b.snd.fst.length : Int)) = true → ((0 : Int) ≤ x.fst ∧ x.fst < (↑b.snd.fst.length : Int)) ∧ isI64 (x.fst + (1 : Int)) ∧ (decide (x.fst + (1 : Int) <
  (↑b.snd.fst.length : Int)) = true → isI64 (x.fst + (1 : Int)) ∧ ((0 : Int) ≤ x.fst + (1 : Int) ∧ x.fst + (1 : Int) < (↑b.snd.fst.length : Int)) ∧ ((0 : Int) ≤ x.fst ∧ x.fst <
  (↑b.snd.snd.fst.length : Int)) ∧ ((0 : Int) ≤ b.snd.fst.getD x.fst.toNat (0 : Int) ∧ b.snd.fst.getD x.fst.toNat (0 : Int) ≤ b.snd.fst.getD (x.fst + (1 : Int)).toNat (0 : Int) ∧
  b.snd.fst.getD (x.fst + (1 : Int)).toNat (0 : Int) ≤ (↑v.length : Int)) ∧ (((1 : Int) ≤ m ∧ m ≤ (3 : Int)) ∧ ((1 : Nat) ≤ (b.snd.snd.fst.getD x.fst.toNat []).length ∧
  (b.snd.snd.fst.getD x.fst.toNat []).length ≤ (1000 : Nat)) ∧ ∀ (i : Nat), i < (b.snd.snd.fst.getD x.fst.toNat []).length → alikeB ((b.snd.snd.fst.getD x.fst.toNat []).getD i [])
  (List.take ((b.snd.fst.getD (x.fst + (1 : Int)).toNat (0 : Int)).toNat - (b.snd.fst.getD x.fst.toNat (0 : Int)).toNat) (List.drop (b.snd.fst.getD x.fst.toNat (0 : Int)).toNat v))
  = true) ∧ False) ∧ (decide (x.fst + (1 : Int) < (↑b.snd.fst.length : Int)) = false → ((0 : Int) ≤ x.fst ∧ x.fst < (↑b.snd.snd.fst.length : Int)) ∧ ((0 : Int) ≤ b.snd.fst.getD
  x.fst.toNat (0 : Int) ∧ b.snd.fst.getD x.fst.toNat (0 : Int) ≤ b.fst ∧ b.fst ≤ (↑v.length : Int)) ∧ (((1 : Int) ≤ m ∧ m ≤ (3 : Int)) ∧ ((1 : Nat) ≤ (b.snd.snd.fst.getD
  x.fst.toNat []).length ∧ (b.snd.snd.fst.getD x.fst.toNat []).length ≤ (1000 : Nat)) ∧ ∀ (i : Nat), i < (b.snd.snd.fst.getD x.fst.toNat []).length → alikeB ((b.snd.snd.fst.getD
  x.fst.toNat []).getD i []) (List.take (b.fst.toNat - (b.snd.fst.getD x.fst.toNat (0 : Int)).toNat) (List.drop (b.snd.fst.getD x.fst.toNat (0 : Int)).toNat v)) = true) ∧ False)) ∧
  (decide (x.fst < (↑b.snd.fst.length : Int)) = false → x.snd = residS b m v))))) ∧ (m = (1 : Int) → ∃ (I : Int × Int → Prop), ∃ (μ : Int × Int → Nat), I ((0 : Int), (0 : Int)) ∧ ∀
  (x : Int × Int), I x → (decide (x.fst < (↑b.snd.fst.length : Int)) = true → ((0 : Int) ≤ x.fst ∧ x.fst < (↑b.snd.fst.length : Int)) ∧ isI64 (x.fst + (1 : Int)) ∧ (decide (x.fst +
  (1 : Int) < (↑b.snd.fst.length : Int)) = true → isI64 (x.fst + (1 : Int)) ∧ ((0 : Int) ≤ x.fst + (1 : Int) ∧ x.fst + (1 : Int) < (↑b.snd.fst.length : Int)) ∧ ((0 : Int) ≤ x.fst ∧
  x.fst < (↑b.snd.snd.fst.length : Int)) ∧ ((0 : Int) ≤ b.snd.fst.getD x.fst.toNat (0 : Int) ∧ b.snd.fst.getD x.fst.toNat (0 : Int) ≤ b.snd.fst.getD (x.fst + (1 : Int)).toNat (0 :
  Int) ∧ b.snd.fst.getD (x.fst + (1 : Int)).toNat (0 : Int) ≤ (↑v.length : Int)) ∧ (((1 : Int) ≤ m ∧ m ≤ (3 : Int)) ∧ ((1 : Nat) ≤ (b.snd.snd.fst.getD x.fst.toNat []).length ∧
  (b.snd.snd.fst.getD x.fst.toNat []).length ≤ (1000 : Nat)) ∧ ∀ (i : Nat), i < (b.snd.snd.fst.getD x.fst.toNat []).length → alikeB ((b.snd.snd.fst.getD x.fst.toNat []).getD i [])
  (List.take ((b.snd.fst.getD (x.fst + (1 : Int)).toNat (0 : Int)).toNat - (b.snd.fst.getD x.fst.toNat (0 : Int)).toNat) (List.drop (b.snd.fst.getD x.fst.toNat (0 : Int)).toNat v))
  = true) ∧ isI64 (x.snd + leastS m (b.snd.snd.fst.getD x.fst.toNat []) (List.take ((b.snd.fst.getD (x.fst + (1 : Int)).toNat (0 : Int)).toNat - (b.snd.fst.getD x.fst.toNat (0 :
  Int)).toNat) (List.drop (b.snd.fst.getD x.fst.toNat (0 : Int)).toNat v))) ∧ isI64 (x.fst + (1 : Int)) ∧ I (x.fst + (1 : Int), x.snd + leastS m (b.snd.snd.fst.getD x.fst.toNat [])
  (List.take ((b.snd.fst.getD (x.fst + (1 : Int)).toNat (0 : Int)).toNat - (b.snd.fst.getD x.fst.toNat (0 : Int)).toNat) (List.drop (b.snd.fst.getD x.fst.toNat (0 : Int)).toNat
  v))) ∧ μ (x.fst + (1 : Int), x.snd + leastS m (b.snd.snd.fst.getD x.fst.toNat []) (List.take ((b.snd.fst.getD (x.fst + (1 : Int)).toNat (0 : Int)).toNat - (b.snd.fst.getD
  x.fst.toNat (0 : Int)).toNat) (List.drop (b.snd.fst.getD x.fst.toNat (0 : Int)).toNat v))) < μ x) ∧ (decide (x.fst + (1 : Int) < (↑b.snd.fst.length : Int)) = false → ((0 : Int) ≤
  x.fst ∧ x.fst < (↑b.snd.snd.fst.length : Int)) ∧ ((0 : Int) ≤ b.snd.fst.getD x.fst.toNat (0 : Int) ∧ b.snd.fst.getD x.fst.toNat (0 : Int) ≤ b.fst ∧ b.fst ≤ (↑v.length : Int)) ∧
  (((1 : Int) ≤ m ∧ m ≤ (3 : Int)) ∧ ((1 : Nat) ≤ (b.snd.snd.fst.getD x.fst.toNat []).length ∧ (b.snd.snd.fst.getD x.fst.toNat []).length ≤ (1000 : Nat)) ∧ ∀ (i : Nat), i <
  (b.snd.snd.fst.getD x.fst.toNat []).length → alikeB ((b.snd.snd.fst.getD x.fst.toNat []).getD i []) (List.take (b.fst.toNat - (b.snd.fst.getD x.fst.toNat (0 : Int)).toNat)
  (List.drop (b.snd.fst.getD x.fst.toNat (0 : Int)).toNat v)) = true) ∧ isI64 (x.snd + leastS m (b.snd.snd.fst.getD x.fst.toNat []) (List.take (b.fst.toNat - (b.snd.fst.getD
  x.fst.toNat (0 : Int)).toNat) (List.drop (b.snd.fst.getD x.fst.toNat (0 : Int)).toNat v))) ∧ isI64 (x.fst + (1 : Int)) ∧ I (x.fst + (1 : Int), x.snd + leastS m
  (b.snd.snd.fst.getD x.fst.toNat []) (List.take (b.fst.toNat - (b.snd.fst.getD x.fst.toNat (0 : Int)).toNat) (List.drop (b.snd.fst.getD x.fst.toNat (0 : Int)).toNat v))) ∧ μ
  (x.fst + (1 : Int), x.snd + leastS m (b.snd.snd.fst.getD x.fst.toNat []) (List.take (b.fst.toNat - (b.snd.fst.getD x.fst.toNat (0 : Int)).toNat) (List.drop (b.snd.fst.getD
  x.fst.toNat (0 : Int)).toNat v))) < μ x)) ∧ (decide (x.fst < (↑b.snd.fst.length : Int)) = false → x.snd = residS b m v)) ∧ (¬m = (1 : Int) → (m = (2 : Int) → ∃ (I : Int × Int →
  Prop), ∃ (μ : Int × Int → Nat), I ((0 : Int), (0 : Int)) ∧ ∀ (x : Int × Int), I x → (decide (x.fst < (↑b.snd.fst.length : Int)) = true → ((0 : Int) ≤ x.fst ∧ x.fst <
  (↑b.snd.fst.length : Int)) ∧ isI64 (x.fst + (1 : Int)) ∧ (decide (x.fst + (1 : Int) < (↑b.snd.fst.length : Int)) = true → isI64 (x.fst + (1 : Int)) ∧ ((0 : Int) ≤ x.fst + (1 :
  Int) ∧ x.fst + (1 : Int) < (↑b.snd.fst.length : Int)) ∧ ((0 : Int) ≤ x.fst ∧ x.fst < (↑b.snd.snd.fst.length : Int)) ∧ ((0 : Int) ≤ b.snd.fst.getD x.fst.toNat (0 : Int) ∧
  b.snd.fst.getD x.fst.toNat (0 : Int) ≤ b.snd.fst.getD (x.fst + (1 : Int)).toNat (0 : Int) ∧ b.snd.fst.getD (x.fst + (1 : Int)).toNat (0 : Int) ≤ (↑v.length : Int)) ∧ (((1 : Int)
  ≤ m ∧ m ≤ (3 : Int)) ∧ ((1 : Nat) ≤ (b.snd.snd.fst.getD x.fst.toNat []).length ∧ (b.snd.snd.fst.getD x.fst.toNat []).length ≤ (1000 : Nat)) ∧ ∀ (i : Nat), i < (b.snd.snd.fst.getD
  x.fst.toNat []).length → alikeB ((b.snd.snd.fst.getD x.fst.toNat []).getD i []) (List.take ((b.snd.fst.getD (x.fst + (1 : Int)).toNat (0 : Int)).toNat - (b.snd.fst.getD
  x.fst.toNat (0 : Int)).toNat) (List.drop (b.snd.fst.getD x.fst.toNat (0 : Int)).toNat v)) = true) ∧ isI64 (x.snd + leastS m (b.snd.snd.fst.getD x.fst.toNat []) (List.take
  ((b.snd.fst.getD (x.fst + (1 : Int)).toNat (0 : Int)).toNat - (b.snd.fst.getD x.fst.toNat (0 : Int)).toNat) (List.drop (b.snd.fst.getD x.fst.toNat (0 : Int)).toNat v))) ∧ isI64
  (x.fst + (1 : Int)) ∧ I (x.fst + (1 : Int), x.snd + leastS m (b.snd.snd.fst.getD x.fst.toNat []) (List.take ((b.snd.fst.getD (x.fst + (1 : Int)).toNat (0 : Int)).toNat -
  (b.snd.fst.getD x.fst.toNat (0 : Int)).toNat) (List.drop (b.snd.fst.getD x.fst.toNat (0 : Int)).toNat v))) ∧ μ (x.fst + (1 : Int), x.snd + leastS m (b.snd.snd.fst.getD
  x.fst.toNat []) (List.take ((b.snd.fst.getD (x.fst + (1 : Int)).toNat (0 : Int)).toNat - (b.snd.fst.getD x.fst.toNat (0 : Int)).toNat) (List.drop (b.snd.fst.getD x.fst.toNat (0 :
  Int)).toNat v))) < μ x) ∧ (decide (x.fst + (1 : Int) < (↑b.snd.fst.length : Int)) = false → ((0 : Int) ≤ x.fst ∧ x.fst < (↑b.snd.snd.fst.length : Int)) ∧ ((0 : Int) ≤
  b.snd.fst.getD x.fst.toNat (0 : Int) ∧ b.snd.fst.getD x.fst.toNat (0 : Int) ≤ b.fst ∧ b.fst ≤ (↑v.length : Int)) ∧ (((1 : Int) ≤ m ∧ m ≤ (3 : Int)) ∧ ((1 : Nat) ≤
  (b.snd.snd.fst.getD x.fst.toNat []).length ∧ (b.snd.snd.fst.getD x.fst.toNat []).length ≤ (1000 : Nat)) ∧ ∀ (i : Nat), i < (b.snd.snd.fst.getD x.fst.toNat []).length → alikeB
  ((b.snd.snd.fst.getD x.fst.toNat []).getD i []) (List.take (b.fst.toNat - (b.snd.fst.getD x.fst.toNat (0 : Int)).toNat) (List.drop (b.snd.fst.getD x.fst.toNat (0 : Int)).toNat
  v)) = true) ∧ isI64 (x.snd + leastS m (b.snd.snd.fst.getD x.fst.toNat []) (List.take (b.fst.toNat - (b.snd.fst.getD x.fst.toNat (0 : Int)).toNat) (List.drop (b.snd.fst.getD
  x.fst.toNat (0 : Int)).toNat v))) ∧ isI64 (x.fst + (1 : Int)) ∧ I (x.fst + (1 : Int), x.snd + leastS m (b.snd.snd.fst.getD x.fst.toNat []) (List.take (b.fst.toNat -
  (b.snd.fst.getD x.fst.toNat (0 : Int)).toNat) (List.drop (b.snd.fst.getD x.fst.toNat (0 : Int)).toNat v))) ∧ μ (x.fst + (1 : Int), x.snd + leastS m (b.snd.snd.fst.getD
  x.fst.toNat []) (List.take (b.fst.toNat - (b.snd.fst.getD x.fst.toNat (0 : Int)).toNat) (List.drop (b.snd.fst.getD x.fst.toNat (0 : Int)).toNat v))) < μ x)) ∧ (decide (x.fst <
  (↑b.snd.fst.length : Int)) = false → x.snd = residS b m v)) ∧ (¬m = (2 : Int) → (m = (3 : Int) → ∃ (I : Int × Int → Prop), ∃ (μ : Int × Int → Nat), I ((0 : Int), (0 : Int)) ∧ ∀
  (x : Int × Int), I x → (decide (x.fst < (↑b.snd.fst.length : Int)) = true → ((0 : Int) ≤ x.fst ∧ x.fst < (↑b.snd.fst.length : Int)) ∧ isI64 (x.fst + (1 : Int)) ∧ (decide (x.fst +
  (1 : Int) < (↑b.snd.fst.length : Int)) = true → isI64 (x.fst + (1 : Int)) ∧ ((0 : Int) ≤ x.fst + (1 : Int) ∧ x.fst + (1 : Int) < (↑b.snd.fst.length : Int)) ∧ ((0 : Int) ≤ x.fst ∧
  x.fst < (↑b.snd.snd.fst.length : Int)) ∧ ((0 : Int) ≤ b.snd.fst.getD x.fst.toNat (0 : Int) ∧ b.snd.fst.getD x.fst.toNat (0 : Int) ≤ b.snd.fst.getD (x.fst + (1 : Int)).toNat (0 :
  Int) ∧ b.snd.fst.getD (x.fst + (1 : Int)).toNat (0 : Int) ≤ (↑v.length : Int)) ∧ (((1 : Int) ≤ m ∧ m ≤ (3 : Int)) ∧ ((1 : Nat) ≤ (b.snd.snd.fst.getD x.fst.toNat []).length ∧
  (b.snd.snd.fst.getD x.fst.toNat []).length ≤ (1000 : Nat)) ∧ ∀ (i : Nat), i < (b.snd.snd.fst.getD x.fst.toNat []).length → alikeB ((b.snd.snd.fst.getD x.fst.toNat []).getD i [])
  (List.take ((b.snd.fst.getD (x.fst + (1 : Int)).toNat (0 : Int)).toNat - (b.snd.fst.getD x.fst.toNat (0 : Int)).toNat) (List.drop (b.snd.fst.getD x.fst.toNat (0 : Int)).toNat v))
  = true) ∧ isI64 (x.fst + (1 : Int)) ∧ I (x.fst + (1 : Int), max x.snd (leastS m (b.snd.snd.fst.getD x.fst.toNat []) (List.take ((b.snd.fst.getD (x.fst + (1 : Int)).toNat (0 :
  Int)).toNat - (b.snd.fst.getD x.fst.toNat (0 : Int)).toNat) (List.drop (b.snd.fst.getD x.fst.toNat (0 : Int)).toNat v)))) ∧ μ (x.fst + (1 : Int), max x.snd (leastS m
  (b.snd.snd.fst.getD x.fst.toNat []) (List.take ((b.snd.fst.getD (x.fst + (1 : Int)).toNat (0 : Int)).toNat - (b.snd.fst.getD x.fst.toNat (0 : Int)).toNat) (List.drop
  (b.snd.fst.getD x.fst.toNat (0 : Int)).toNat v)))) < μ x) ∧ (decide (x.fst + (1 : Int) < (↑b.snd.fst.length : Int)) = false → ((0 : Int) ≤ x.fst ∧ x.fst < (↑b.snd.snd.fst.length
  : Int)) ∧ ((0 : Int) ≤ b.snd.fst.getD x.fst.toNat (0 : Int) ∧ b.snd.fst.getD x.fst.toNat (0 : Int) ≤ b.fst ∧ b.fst ≤ (↑v.length : Int)) ∧ (((1 : Int) ≤ m ∧ m ≤ (3 : Int)) ∧ ((1 :
  Nat) ≤ (b.snd.snd.fst.getD x.fst.toNat []).length ∧ (b.snd.snd.fst.getD x.fst.toNat []).length ≤ (1000 : Nat)) ∧ ∀ (i : Nat), i < (b.snd.snd.fst.getD x.fst.toNat []).length →
  alikeB ((b.snd.snd.fst.getD x.fst.toNat []).getD i []) (List.take (b.fst.toNat - (b.snd.fst.getD x.fst.toNat (0 : Int)).toNat) (List.drop (b.snd.fst.getD x.fst.toNat (0 :
  Int)).toNat v)) = true) ∧ isI64 (x.fst + (1 : Int)) ∧ I (x.fst + (1 : Int), max x.snd (leastS m (b.snd.snd.fst.getD x.fst.toNat []) (List.take (b.fst.toNat - (b.snd.fst.getD
  x.fst.toNat (0 : Int)).toNat) (List.drop (b.snd.fst.getD x.fst.toNat (0 : Int)).toNat v)))) ∧ μ (x.fst + (1 : Int), max x.snd (leastS m (b.snd.snd.fst.getD x.fst.toNat [])
  (List.take (b.fst.toNat - (b.snd.fst.getD x.fst.toNat (0 : Int)).toNat) (List.drop (b.snd.fst.getD x.fst.toNat (0 : Int)).toNat v)))) < μ x)) ∧ (decide (x.fst <
  (↑b.snd.fst.length : Int)) = false → x.snd = residS b m v)) ∧ (¬m = (3 : Int) → ∃ (I : Int × Int → Prop), ∃ (μ : Int × Int → Nat), I ((0 : Int), (0 : Int)) ∧ ∀ (x : Int × Int), I
  x → (decide (x.fst < (↑b.snd.fst.length : Int)) = true → ((0 : Int) ≤ x.fst ∧ x.fst < (↑b.snd.fst.length : Int)) ∧ isI64 (x.fst + (1 : Int)) ∧ (decide (x.fst + (1 : Int) <
  (↑b.snd.fst.length : Int)) = true → isI64 (x.fst + (1 : Int)) ∧ ((0 : Int) ≤ x.fst + (1 : Int) ∧ x.fst + (1 : Int) < (↑b.snd.fst.length : Int)) ∧ ((0 : Int) ≤ x.fst ∧ x.fst <
  (↑b.snd.snd.fst.length : Int)) ∧ ((0 : Int) ≤ b.snd.fst.getD x.fst.toNat (0 : Int) ∧ b.snd.fst.getD x.fst.toNat (0 : Int) ≤ b.snd.fst.getD (x.fst + (1 : Int)).toNat (0 : Int) ∧
  b.snd.fst.getD (x.fst + (1 : Int)).toNat (0 : Int) ≤ (↑v.length : Int)) ∧ (((1 : Int) ≤ m ∧ m ≤ (3 : Int)) ∧ ((1 : Nat) ≤ (b.snd.snd.fst.getD x.fst.toNat []).length ∧
  (b.snd.snd.fst.getD x.fst.toNat []).length ≤ (1000 : Nat)) ∧ ∀ (i : Nat), i < (b.snd.snd.fst.getD x.fst.toNat []).length → alikeB ((b.snd.snd.fst.getD x.fst.toNat []).getD i [])
  (List.take ((b.snd.fst.getD (x.fst + (1 : Int)).toNat (0 : Int)).toNat - (b.snd.fst.getD x.fst.toNat (0 : Int)).toNat) (List.drop (b.snd.fst.getD x.fst.toNat (0 : Int)).toNat v))
  = true) ∧ False) ∧ (decide (x.fst + (1 : Int) < (↑b.snd.fst.length : Int)) = false → ((0 : Int) ≤ x.fst ∧ x.fst < (↑b.snd.snd.fst.length : Int)) ∧ ((0 : Int) ≤ b.snd.fst.getD
  x.fst.toNat (0 : Int) ∧ b.snd.fst.getD x.fst.toNat (0 : Int) ≤ b.fst ∧ b.fst ≤ (↑v.length : Int)) ∧ (((1 : Int) ≤ m ∧ m ≤ (3 : Int)) ∧ ((1 : Nat) ≤ (b.snd.snd.fst.getD
  x.fst.toNat []).length ∧ (b.snd.snd.fst.getD x.fst.toNat []).length ≤ (1000 : Nat)) ∧ ∀ (i : Nat), i < (b.snd.snd.fst.getD x.fst.toNat []).length → alikeB ((b.snd.snd.fst.getD
  x.fst.toNat []).getD i []) (List.take (b.fst.toNat - (b.snd.fst.getD x.fst.toNat (0 : Int)).toNat) (List.drop (b.snd.fst.getD x.fst.toNat (0 : Int)).toNat v)) = true) ∧ False)) ∧
  (decide (x.fst < (↑b.snd.fst.length : Int)) = false → x.snd = residS b m v))))) := by kernel_rfl
theorem tbl_nf (b : Book) (m : Int) (v : List Int) : fnwp (D1 [.gcell 0 0 22 L]) 7 26 tblSp (b, m, v) = (∃ (I : Int × List (List Int) → Prop), ∃ (μ : Int × List (List Int) → Nat),
  I ((0 : Int), []) ∧ ∀ (x : Int × List (List Int)), I x → (decide (x.fst < (↑b.snd.fst.length : Int)) = true → ((0 : Int) ≤ x.fst ∧ x.fst < (↑b.snd.fst.length : Int)) ∧ isI64
  (x.fst + (1 : Int)) ∧ (decide (x.fst + (1 : Int) < (↑b.snd.fst.length : Int)) = true → isI64 (x.fst + (1 : Int)) ∧ ((0 : Int) ≤ x.fst + (1 : Int) ∧ x.fst + (1 : Int) <
  (↑b.snd.fst.length : Int)) ∧ ((0 : Int) ≤ x.fst ∧ x.fst < (↑b.snd.snd.fst.length : Int)) ∧ False) ∧ (decide (x.fst + (1 : Int) < (↑b.snd.fst.length : Int)) = false → ((0 : Int) ≤
  x.fst ∧ x.fst < (↑b.snd.snd.fst.length : Int)) ∧ False)) ∧ (decide (x.fst < (↑b.snd.fst.length : Int)) = false → x.snd = tableS b m v)) := by kernel_rfl
theorem rTbl_nf (b : Book) (m : Int) (v : List Int) : fnwp (D2 []) 6 22 tblSp (b, m, v) = (∃ (I : List (List Int) × Int → Prop), ∃ (μ : List (List Int) × Int → Nat), I ([], (0 :
  Int)) ∧ ∀ (x : List (List Int) × Int), I x → (decide (x.snd < (↑b.snd.fst.length : Int)) = true → ∃ (I_1 : List (List Int) × List Int × Int → Prop), ∃ (μ_1 : List (List Int) ×
  List Int × Int → Nat), I_1 (x.fst, [], (0 : Int)) ∧ ∀ (x_1 : List (List Int) × List Int × Int), I_1 x_1 → ((0 : Int) ≤ x.snd ∧ x.snd < (↑b.snd.snd.fst.length : Int)) ∧ (decide
  (x_1.snd.snd < (↑(b.snd.snd.fst.getD x.snd.toNat []).length : Int)) = true → ((0 : Int) ≤ x.snd ∧ x.snd < (↑b.snd.snd.fst.length : Int)) ∧ ((0 : Int) ≤ x_1.snd.snd ∧ x_1.snd.snd
  < (↑(b.snd.snd.fst.getD x.snd.toNat []).length : Int)) ∧ ((0 : Int) ≤ x.snd ∧ x.snd < (↑b.snd.fst.length : Int) ∧ cutB b.snd.fst b.fst = true ∧ (↑v.length : Int) = b.fst) ∧ ((1 :
  Int) ≤ m ∧ m ≤ (3 : Int) ∧ small (64 : Nat) (4000 : Int) ((b.snd.snd.fst.getD x.snd.toNat []).getD x_1.snd.snd.toNat []) ∧ small (64 : Nat) (4000 : Int) (partS b.snd.fst b.fst
  x.snd.toNat v) ∧ ((b.snd.snd.fst.getD x.snd.toNat []).getD x_1.snd.snd.toNat []).length = (partS b.snd.fst b.fst x.snd.toNat v).length) ∧ roomP (D2 []) (3 : Nat)
  (x_1.snd.fst.length + [keyS m ((b.snd.snd.fst.getD x.snd.toNat []).getD x_1.snd.snd.toNat []) (partS b.snd.fst b.fst x.snd.toNat v)].length) ∧ isI64 (x_1.snd.snd + (1 : Int)) ∧
  I_1 (x_1.fst, x_1.snd.fst ++ [keyS m ((b.snd.snd.fst.getD x.snd.toNat []).getD x_1.snd.snd.toNat []) (partS b.snd.fst b.fst x.snd.toNat v)], x_1.snd.snd + (1 : Int)) ∧ μ_1
  (x_1.fst, x_1.snd.fst ++ [keyS m ((b.snd.snd.fst.getD x.snd.toNat []).getD x_1.snd.snd.toNat []) (partS b.snd.fst b.fst x.snd.toNat v)], x_1.snd.snd + (1 : Int)) < μ_1 x_1) ∧
  (decide (x_1.snd.snd < (↑(b.snd.snd.fst.getD x.snd.toNat []).length : Int)) = false → roomP (D2 []) (22 : Nat) (x_1.fst.length + [x_1.snd.fst].length) ∧ isI64 (x.snd + (1 : Int))
  ∧ I (x_1.fst ++ [x_1.snd.fst], x.snd + (1 : Int)) ∧ μ (x_1.fst ++ [x_1.snd.fst], x.snd + (1 : Int)) < μ x)) ∧ (decide (x.snd < (↑b.snd.fst.length : Int)) = false → x.fst = tableS
  b m v)) := by kernel_rfl
theorem rRes_nf (b : Book) (m : Int) (v : List Int) : fnwp (D3 []) 6 21 resSp (b, m, v) = (rightB b m v v = true ∧ (bookB b = true ∧ (encodeS b m v).length ≤ (1000 : Nat)) ∧ ((1 :
  Int) ≤ m ∧ m ≤ (3 : Int) ∧ small (64 : Nat) (4000 : Int) v ∧ small (64 : Nat) (4000 : Int) (decodeS b (encodeS b m v)).fst ∧ v.length = (decodeS b (encodeS b m v)).fst.length) ∧
  keyS m v (decodeS b (encodeS b m v)).fst = residS b m v) := by kernel_rfl
theorem right_nf (b : Book) (m : Int) (v q : List Int) : fnwp (D3 []) 6 14 rightSp (b, m, v, q) = (True ∧ ((!fewBk b) = true → false = (fewBk b && rightB b m v q)) ∧ ((!fewBk b) =
  false → True ∧ ((!decide (checkS b = (0 : Int))) = true → false = (fewBk b && rightB b m v q)) ∧ ((!decide (checkS b = (0 : Int))) = false → True ∧ ((!(decide ((1 : Int) ≤ m) &&
  decide (m ≤ (3 : Int)))) = true → false = (fewBk b && rightB b m v q)) ∧ ((!(decide ((1 : Int) ≤ m) && decide (m ≤ (3 : Int)))) = false → True ∧ True ∧ (vecOk v = true → (vecOk q
  = true → (decide ((↑v.length : Int) = b.fst) = true → decide ((↑q.length : Int) = b.fst) = (fewBk b && rightB b m v q)) ∧ (decide ((↑v.length : Int) = b.fst) = false → false =
  (fewBk b && rightB b m v q))) ∧ (vecOk q = false → false = (fewBk b && rightB b m v q))) ∧ (vecOk v = false → false = (fewBk b && rightB b m v q)))))) := by kernel_rfl
end Go.Proofs.Ytjppchomonpfgaa
