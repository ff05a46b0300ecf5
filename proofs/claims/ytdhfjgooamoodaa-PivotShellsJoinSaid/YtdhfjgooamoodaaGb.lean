import Derived.Test.YtdhfjgooamoodaaGa
namespace Go.Proofs.Ytdhfjgooamoodaa
open Go.AM Go.PL
set_option linter.unusedVariables false
theorem min_nf (l : List Int) : fnwp G0 6 48 minSp l = ((decide ((↑l.length : Int) < (1 : Int)) = true → False) ∧ (decide ((↑l.length : Int) < (1 : Int)) = false → ((0 : Int) ≤ (0
  : Int) ∧ (0 : Int) < (↑l.length : Int)) ∧ ∃ (I : Int × Int → Prop), ∃ (μ : Int × Int → Nat), I (l.getD (0 : Nat) (0 : Int), (1 : Int)) ∧ ∀ (x : Int × Int), I x → (decide (x.snd <
  (↑l.length : Int)) = true → ((0 : Int) ≤ x.snd ∧ x.snd < (↑l.length : Int)) ∧ isI64 (x.snd + (1 : Int)) ∧ I (min x.fst (l.getD x.snd.toNat (0 : Int)), x.snd + (1 : Int)) ∧ μ (min
  x.fst (l.getD x.snd.toNat (0 : Int)), x.snd + (1 : Int)) < μ x) ∧ (decide (x.snd < (↑l.length : Int)) = false → x.fst = minL l))) := by kernel_rfl
theorem max_nf (l : List Int) : fnwp G0 6 75 maxSp l = ((decide ((↑l.length : Int) < (1 : Int)) = true → False) ∧ (decide ((↑l.length : Int) < (1 : Int)) = false → ((0 : Int) ≤ (0
  : Int) ∧ (0 : Int) < (↑l.length : Int)) ∧ ∃ (I : Int × Int → Prop), ∃ (μ : Int × Int → Nat), I (l.getD (0 : Nat) (0 : Int), (1 : Int)) ∧ ∀ (x : Int × Int), I x → (decide (x.snd <
  (↑l.length : Int)) = true → ((0 : Int) ≤ x.snd ∧ x.snd < (↑l.length : Int)) ∧ isI64 (x.snd + (1 : Int)) ∧ I (max x.fst (l.getD x.snd.toNat (0 : Int)), x.snd + (1 : Int)) ∧ μ (max
  x.fst (l.getD x.snd.toNat (0 : Int)), x.snd + (1 : Int)) < μ x) ∧ (decide (x.snd < (↑l.length : Int)) = false → x.fst = maxL l))) := by kernel_rfl
theorem idx_nf (l : List Int) (x : Int) : fnwp G0 6 49 idxSp (l, x) = (∃ (I : Int → Prop), ∃ (μ : Int → Nat), I (0 : Int) ∧ ∀ (x_1 : Int), I x_1 → (decide (x_1 < (↑l.length : Int))
  = true → ((0 : Int) ≤ x_1 ∧ x_1 < (↑l.length : Int)) ∧ (decide (x = l.getD x_1.toNat (0 : Int)) = true → x_1 = idxS l x) ∧ (decide (x = l.getD x_1.toNat (0 : Int)) = false →
  isI64 (x_1 + (1 : Int)) ∧ I (x_1 + (1 : Int)) ∧ μ (x_1 + (1 : Int)) < μ x_1)) ∧ (decide (x_1 < (↑l.length : Int)) = false → (-1 : Int) = idxS l x)) := by kernel_rfl
theorem mul_nf (x y : Int) : fnwp G0 6 74 mulSp (x, y) = (((0 : Int) ≤ (32 : Int) ∧ (32 : Int) ≤ (64 : Int)) ∧ ((0 : Int) ≤ (32 : Int) ∧ (32 : Int) ≤ (64 : Int)) ∧ ((0 : Int) ≤ (32
  : Int) ∧ (32 : Int) ≤ (64 : Int)) ∧ ((0 : Int) ≤ (32 : Int) ∧ (32 : Int) ≤ (64 : Int)) ∧ ((0 : Int) ≤ (32 : Int) ∧ (32 : Int) ≤ (64 : Int)) ∧ (IntKind.u64.wrap (IntKind.u64.wrap
  (IntKind.u64.wrap (x / (2 : Int) ^ (32 : Nat) * (y / (2 : Int) ^ (32 : Nat))) + IntKind.u64.wrap (IntKind.u64.wrap (x / (2 : Int) ^ (32 : Nat) * bitsOp BinOp.and IntKind.u64 y
  (4294967295 : Int)) + IntKind.u64.wrap (bitsOp BinOp.and IntKind.u64 x (4294967295 : Int) * bitsOp BinOp.and IntKind.u64 y (4294967295 : Int)) / (2 : Int) ^ (32 : Nat)) / (2 :
  Int) ^ (32 : Nat)) + IntKind.u64.wrap (bitsOp BinOp.and IntKind.u64 (IntKind.u64.wrap (IntKind.u64.wrap (x / (2 : Int) ^ (32 : Nat) * bitsOp BinOp.and IntKind.u64 y (4294967295 :
  Int)) + IntKind.u64.wrap (bitsOp BinOp.and IntKind.u64 x (4294967295 : Int) * bitsOp BinOp.and IntKind.u64 y (4294967295 : Int)) / (2 : Int) ^ (32 : Nat))) (4294967295 : Int) +
  IntKind.u64.wrap (bitsOp BinOp.and IntKind.u64 x (4294967295 : Int) * (y / (2 : Int) ^ (32 : Nat)))) / (2 : Int) ^ (32 : Nat)), IntKind.u64.wrap (x * y)) = ((0 : Int), x * y)) :=
  by kernel_rfl
theorem fit_nf (l : List (List Int)) : fnwp G0 6 42 fitSp l = ((decide ((1 : Int) ≤ (↑l.length : Int)) = true → (decide ((↑l.length : Int) ≤ (4096 : Int)) = true → ∃ (I : Int →
  Prop), ∃ (μ : Int → Nat), I (0 : Int) ∧ ∀ (x : Int), I x → (decide (x < (↑l.length : Int)) = true → ((0 : Int) ≤ x ∧ x < (↑l.length : Int)) ∧ ((0 : Int) ≤ (0 : Int) ∧ (0 : Int) <
  (↑l.length : Int)) ∧ True ∧ ((!alikeB (l.getD (0 : Nat) []) (l.getD x.toNat [])) = true → (!decide ((0 : Int) ≤ x)) = fitB l) ∧ ((!alikeB (l.getD (0 : Nat) []) (l.getD x.toNat
  [])) = false → isI64 (x + (1 : Int)) ∧ I (x + (1 : Int)) ∧ μ (x + (1 : Int)) < μ x)) ∧ (decide (x < (↑l.length : Int)) = false → true = fitB l)) ∧ (decide ((↑l.length : Int) ≤
  (4096 : Int)) = false → false = fitB l)) ∧ (decide ((1 : Int) ≤ (↑l.length : Int)) = false → false = fitB l)) := by kernel_rfl
theorem rFit_nf (l : List (List Int)) : fnwp G0 6 30 fitSp l = (∃ (I : Int → Prop), ∃ (μ : Int → Nat), I (0 : Int) ∧ ∀ (x : Int), I x → (decide (x < (↑l.length : Int)) = true → ((0
  : Int) ≤ x ∧ x < (↑l.length : Int)) ∧ True ∧ ((!vecOk (l.getD x.toNat [])) = true → false = fitB l) ∧ ((!vecOk (l.getD x.toNat [])) = false → ((0 : Int) ≤ x ∧ x < (↑l.length :
  Int)) ∧ ((0 : Int) ≤ (0 : Int) ∧ (0 : Int) < (↑l.length : Int)) ∧ ((!decide ((↑(l.getD x.toNat []).length : Int) = (↑(l.getD (0 : Nat) []).length : Int))) = true → false = fitB
  l) ∧ ((!decide ((↑(l.getD x.toNat []).length : Int) = (↑(l.getD (0 : Nat) []).length : Int))) = false → isI64 (x + (1 : Int)) ∧ I (x + (1 : Int)) ∧ μ (x + (1 : Int)) < μ x))) ∧
  (decide (x < (↑l.length : Int)) = false → (decide ((1 : Int) ≤ (↑l.length : Int)) = true → decide ((↑l.length : Int) ≤ (4096 : Int)) = fitB l) ∧ (decide ((1 : Int) ≤ (↑l.length :
  Int)) = false → false = fitB l))) := by kernel_rfl
theorem with_nf (p : Shell) (x : Int) : fnwp G0 6 55 withSp (p, x) = ((min p.fst x, max p.snd.fst x, ()) = withS p x) := by kernel_rfl
theorem allSh_nf : fnwp G0 6 56 allShSp () = (((0 : Int), (134217728 : Int), ()) = ((0 : Int), (134217728 : Int), ())) := by kernel_rfl
theorem ofSh_nf (p : Shell) : fnwp G0 6 65 ofShSp p = ((p.fst, p.snd.fst, ()) = p) := by kernel_rfl
theorem rMet_nf (m : Int) : fnwp G0 6 29 metricSp m = ((decide ((1 : Int) ≤ m) = true → decide (m ≤ (3 : Int)) = (decide ((1 : Int) ≤ m) && decide (m ≤ (3 : Int)))) ∧ (decide ((1 :
  Int) ≤ m) = false → false = (decide ((1 : Int) ≤ m) && decide (m ≤ (3 : Int))))) := by kernel_rfl
theorem rValidSh_nf (l : List Shell) : fnwp G0 6 39 validShSp l = (∃ (I : Int → Prop), ∃ (μ : Int → Nat), I (0 : Int) ∧ ∀ (x : Int), I x → (decide (x < (↑l.length : Int)) = true →
  ((0 : Int) ≤ x ∧ x < (↑l.length : Int)) ∧ (decide ((l.getD x.toNat ((0 : Int), (0 : Int), ())).fst < (0 : Int)) = true → false = validB l) ∧ (decide ((l.getD x.toNat ((0 : Int),
  (0 : Int), ())).fst < (0 : Int)) = false → ((0 : Int) ≤ x ∧ x < (↑l.length : Int)) ∧ ((0 : Int) ≤ x ∧ x < (↑l.length : Int)) ∧ (decide ((l.getD x.toNat ((0 : Int), (0 : Int),
  ())).snd.fst < (l.getD x.toNat ((0 : Int), (0 : Int), ())).fst) = true → false = validB l) ∧ (decide ((l.getD x.toNat ((0 : Int), (0 : Int), ())).snd.fst < (l.getD x.toNat ((0 :
  Int), (0 : Int), ())).fst) = false → ((0 : Int) ≤ x ∧ x < (↑l.length : Int)) ∧ (decide ((134217728 : Int) < (l.getD x.toNat ((0 : Int), (0 : Int), ())).snd.fst) = true → false =
  validB l) ∧ (decide ((134217728 : Int) < (l.getD x.toNat ((0 : Int), (0 : Int), ())).snd.fst) = false → isI64 (x + (1 : Int)) ∧ I (x + (1 : Int)) ∧ μ (x + (1 : Int)) < μ x)))) ∧
  (decide (x < (↑l.length : Int)) = false → decide ((↑l.length : Int) ≤ (8 : Int)) = validB l)) := by kernel_rfl
theorem sameL_nf (a b : List Int) : fnwp G0 6 19 sameLSp (a, b) = (((!decide ((↑a.length : Int) = (↑b.length : Int))) = true → false = decide (a = b)) ∧ ((!decide ((↑a.length :
  Int) = (↑b.length : Int))) = false → ∃ (I : Int → Prop), ∃ (μ : Int → Nat), I (0 : Int) ∧ ∀ (x : Int), I x → (decide (x < (↑a.length : Int)) = true → ((0 : Int) ≤ x ∧ x <
  (↑a.length : Int)) ∧ ((0 : Int) ≤ x ∧ x < (↑b.length : Int)) ∧ ((!decide (a.getD x.toNat (0 : Int) = b.getD x.toNat (0 : Int))) = true → false = decide (a = b)) ∧ ((!decide
  (a.getD x.toNat (0 : Int) = b.getD x.toNat (0 : Int))) = false → isI64 (x + (1 : Int)) ∧ I (x + (1 : Int)) ∧ μ (x + (1 : Int)) < μ x)) ∧ (decide (x < (↑a.length : Int)) = false →
  true = decide (a = b)))) := by kernel_rfl
theorem sameSh_nf (a b : List Shell) : fnwp G0 6 38 sameShSp (a, b) = (((!decide ((↑a.length : Int) = (↑b.length : Int))) = true → false = decide (a = b)) ∧ ((!decide ((↑a.length :
  Int) = (↑b.length : Int))) = false → ∃ (I : Int → Prop), ∃ (μ : Int → Nat), I (0 : Int) ∧ ∀ (x : Int), I x → (decide (x < (↑a.length : Int)) = true → ((0 : Int) ≤ x ∧ x <
  (↑a.length : Int)) ∧ ((0 : Int) ≤ x ∧ x < (↑b.length : Int)) ∧ ((!(decide ((a.getD x.toNat ((0 : Int), (0 : Int), ())).fst = (b.getD x.toNat ((0 : Int), (0 : Int), ())).fst) &&
  (decide ((a.getD x.toNat ((0 : Int), (0 : Int), ())).snd.fst = (b.getD x.toNat ((0 : Int), (0 : Int), ())).snd.fst) && true))) = true → false = decide (a = b)) ∧ ((!(decide
  ((a.getD x.toNat ((0 : Int), (0 : Int), ())).fst = (b.getD x.toNat ((0 : Int), (0 : Int), ())).fst) && (decide ((a.getD x.toNat ((0 : Int), (0 : Int), ())).snd.fst = (b.getD
  x.toNat ((0 : Int), (0 : Int), ())).snd.fst) && true))) = false → isI64 (x + (1 : Int)) ∧ I (x + (1 : Int)) ∧ μ (x + (1 : Int)) < μ x)) ∧ (decide (x < (↑a.length : Int)) = false
  → true = decide (a = b)))) := by kernel_rfl
theorem few9_nf (l : List (List Int)) (n : Int) : fnwp G0 6 9 fewSp9 (l, n) = ((decide (n < (↑l.length : Int)) = true → false = few40 l n) ∧ (decide (n < (↑l.length : Int)) = false
  → ∃ (I : Int → Prop), ∃ (μ : Int → Nat), I (0 : Int) ∧ ∀ (x : Int), I x → (decide (x < (↑l.length : Int)) = true → ((0 : Int) ≤ x ∧ x < (↑l.length : Int)) ∧ (decide ((40 : Int) <
  (↑(l.getD x.toNat []).length : Int)) = true → false = few40 l n) ∧ (decide ((40 : Int) < (↑(l.getD x.toNat []).length : Int)) = false → isI64 (x + (1 : Int)) ∧ I (x + (1 : Int))
  ∧ μ (x + (1 : Int)) < μ x)) ∧ (decide (x < (↑l.length : Int)) = false → true = few40 l n))) := by kernel_rfl
theorem gap2_nf (m a b c : Int) : fnwp G0 6 69 gap2Sp (m, a, b, c) = ((decide (c < a) = true → (keyP c ∧ keyP a) ∧ lowS m c a = lowS m c (max a (min c b))) ∧ (decide (c < a) =
  false → (decide (b < c) = true → (keyP c ∧ keyP b) ∧ lowS m c b = lowS m c (max a (min c b))) ∧ (decide (b < c) = false → (0 : Int) = lowS m c (max a (min c b))))) := by
  kernel_rfl
theorem reach2_nf (m a b c : Int) : fnwp G0 6 70 reach2Sp (m, a, b, c) = ((keyP c ∧ keyP a) ∧ (keyP c ∧ keyP b) ∧ (decide (highS m c b < highS m c a) = true → highS m c a = highS m
  c b) ∧ (decide (highS m c b < highS m c a) = false → highS m c b = highS m c b)) := by kernel_rfl
theorem near1_nf (m : Int) (p : List (List Int)) (v : List Int) : fnwp G0 6 50 near1Sp (m, p, v) = (((0 : Int) ≤ (0 : Int) ∧ (0 : Int) < (↑p.length : Int)) ∧ ((1 : Int) ≤ m ∧ m ≤
  (3 : Int) ∧ small (64 : Nat) (4000 : Int) (p.getD (0 : Nat) []) ∧ small (64 : Nat) (4000 : Int) v ∧ (p.getD (0 : Nat) []).length = v.length) ∧ ∃ (I : Int × Int × Int × Int →
  Prop), ∃ (μ : Int × Int × Int × Int → Nat), I ((0 : Int), (0 : Int), keyS m (p.getD (0 : Nat) []) v, (0 : Int)) ∧ ∀ (x : Int × Int × Int × Int), I x → (decide (x.fst < (↑p.length
  : Int)) = true → ((0 : Int) ≤ x.fst ∧ x.fst < (↑p.length : Int)) ∧ ((1 : Int) ≤ m ∧ m ≤ (3 : Int) ∧ small (64 : Nat) (4000 : Int) (p.getD x.fst.toNat []) ∧ small (64 : Nat) (4000
  : Int) v ∧ (p.getD x.fst.toNat []).length = v.length) ∧ (decide (keyS m (p.getD x.fst.toNat []) v < x.snd.snd.fst) = true → isI64 (x.fst + (1 : Int)) ∧ I (x.fst + (1 : Int),
  x.fst, keyS m (p.getD x.fst.toNat []) v, (0 : Int)) ∧ μ (x.fst + (1 : Int), x.fst, keyS m (p.getD x.fst.toNat []) v, (0 : Int)) < μ x) ∧ (decide (keyS m (p.getD x.fst.toNat []) v
  < x.snd.snd.fst) = false → isI64 (x.fst + (1 : Int)) ∧ I (x.fst + (1 : Int), x.snd.fst, x.snd.snd.fst, x.snd.snd.snd) ∧ μ (x.fst + (1 : Int), x.snd.fst, x.snd.snd.fst,
  x.snd.snd.snd) < μ x)) ∧ (decide (x.fst < (↑p.length : Int)) = false → (x.snd.fst, x.snd.snd.fst, x.snd.snd.snd, ()) = ((↑(nearI m p v) : Int), nearK m p v, (0 : Int), ()))) :=
  by kernel_rfl
end Go.Proofs.Ytdhfjgooamoodaa
