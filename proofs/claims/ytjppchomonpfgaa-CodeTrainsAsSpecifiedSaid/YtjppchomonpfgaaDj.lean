import Derived.Test.YtjppchomonpfgaaDe
namespace Go.Proofs.Ytjppchomonpfgaa
open Go.AM Go.PL
set_option linter.unusedVariables false
def tE6 : List (FuncId × FSpec) := (30, allSp) :: tE5
def lawLA (a b : Nat) : List LA := [.slot 17 I, .cell a 0 I, .cell a 1 L, .cell a 2 LLL, .cell b 0 I, .cell b 1 L, .cell b 2 LLL]
def hintJ8 (a b : Nat) (f : FuncId) : Hint := ⟨fun _ => lawLA a b, fun r => .split, fun _ => .split, fun _ => 0⟩
noncomputable def EJ (a b : Nat) : Ctx := mkctx bs tE6 [] (hintJ8 a b)
theorem law7_nf (l : List (List Int)) (c : List Int) (one two m : Int) : fnwp (EJ 0 1) 6 9 (lawSp [LL, L, U8, U8, I]) (l, c, one, two, m) = (True ∧ ((!allB l (40 : Int)) = true →
  True ∧ true = true) ∧ ((!allB l (40 : Int)) = false → (decide ((9 : Int) < (↑c.length : Int)) = true → True ∧ true = true) ∧ (decide ((9 : Int) < (↑c.length : Int)) = false →
  True ∧ ((!(decide ((1 : Int) ≤ m) && decide (m ≤ (3 : Int)))) = true → True ∧ true = true) ∧ ((!(decide ((1 : Int) ≤ m) && decide (m ≤ (3 : Int)))) = false → (50 : Int) ≠ (0 :
  Int) ∧ isI64 ((1 : Int) + (IntKind.i64.wrap (min one two)).tmod (50 : Int)) ∧ True ∧ (50 : Int) ≠ (0 : Int) ∧ isI64 ((1 : Int) + (IntKind.i64.wrap (max one two)).tmod (50 : Int))
  ∧ True ∧ ((!decide ((trainBk l c ((1 : Int) + (IntKind.i64.wrap (min one two)).tmod (50 : Int))).snd = (0 : Int))) = true → True ∧ (true = true → decide ((trainBk l c ((1 : Int)
  + (IntKind.i64.wrap (min one two)).tmod (50 : Int))).snd = (trainBk l c (max ((1 : Int) + (IntKind.i64.wrap (min one two)).tmod (50 : Int)) ((1 : Int) + (IntKind.i64.wrap (max
  one two)).tmod (50 : Int)))).snd) = true) ∧ (true = false → false = true)) ∧ ((!decide ((trainBk l c ((1 : Int) + (IntKind.i64.wrap (min one two)).tmod (50 : Int))).snd = (0 :
  Int))) = false → ((!decide ((trainBk l c (max ((1 : Int) + (IntKind.i64.wrap (min one two)).tmod (50 : Int)) ((1 : Int) + (IntKind.i64.wrap (max one two)).tmod (50 : Int)))).snd
  = (0 : Int))) = true → True ∧ (true = true → decide ((trainBk l c ((1 : Int) + (IntKind.i64.wrap (min one two)).tmod (50 : Int))).snd = (trainBk l c (max ((1 : Int) +
  (IntKind.i64.wrap (min one two)).tmod (50 : Int)) ((1 : Int) + (IntKind.i64.wrap (max one two)).tmod (50 : Int)))).snd) = true) ∧ (true = false → false = true)) ∧ ((!decide
  ((trainBk l c (max ((1 : Int) + (IntKind.i64.wrap (min one two)).tmod (50 : Int)) ((1 : Int) + (IntKind.i64.wrap (max one two)).tmod (50 : Int)))).snd = (0 : Int))) = false → ∃
  (I : Int × Int × List Int × List (List (List Int)) × Int × List Int × List (List (List Int)) → Prop), ∃ (μ : Int × Int × List Int × List (List (List Int)) × Int × List Int × List
  (List (List Int)) → Nat), I ((0 : Int), (trainBk l c ((1 : Int) + (IntKind.i64.wrap (min one two)).tmod (50 : Int))).fst.fst, (trainBk l c ((1 : Int) + (IntKind.i64.wrap (min one
  two)).tmod (50 : Int))).fst.snd.fst, (trainBk l c ((1 : Int) + (IntKind.i64.wrap (min one two)).tmod (50 : Int))).fst.snd.snd.fst, (trainBk l c (max ((1 : Int) +
  (IntKind.i64.wrap (min one two)).tmod (50 : Int)) ((1 : Int) + (IntKind.i64.wrap (max one two)).tmod (50 : Int)))).fst.fst, (trainBk l c (max ((1 : Int) + (IntKind.i64.wrap (min
  one two)).tmod (50 : Int)) ((1 : Int) + (IntKind.i64.wrap (max one two)).tmod (50 : Int)))).fst.snd.fst, (trainBk l c (max ((1 : Int) + (IntKind.i64.wrap (min one two)).tmod (50
  : Int)) ((1 : Int) + (IntKind.i64.wrap (max one two)).tmod (50 : Int)))).fst.snd.snd.fst) ∧ ∀ (x : Int × Int × List Int × List (List (List Int)) × Int × List Int × List (List
  (List Int))), I x → (decide (x.fst < (↑x.snd.snd.snd.fst.length : Int)) = true → ((0 : Int) ≤ x.fst ∧ x.fst < (↑x.snd.snd.snd.fst.length : Int)) ∧ ((0 : Int) ≤ x.fst ∧ x.fst <
  (↑x.snd.snd.snd.snd.snd.snd.length : Int)) ∧ (decide ((↑(x.snd.snd.snd.snd.snd.snd.getD x.fst.toNat []).length : Int) < (↑(x.snd.snd.snd.fst.getD x.fst.toNat []).length : Int)) =
  true → false = true) ∧ (decide ((↑(x.snd.snd.snd.snd.snd.snd.getD x.fst.toNat []).length : Int) < (↑(x.snd.snd.snd.fst.getD x.fst.toNat []).length : Int)) = false → ((0 : Int) ≤
  x.fst ∧ x.fst < (↑x.snd.snd.snd.fst.length : Int)) ∧ (decide ((1 : Int) + (IntKind.i64.wrap (min one two)).tmod (50 : Int) < (↑(x.snd.snd.snd.fst.getD x.fst.toNat []).length :
  Int)) = true → false = true) ∧ (decide ((1 : Int) + (IntKind.i64.wrap (min one two)).tmod (50 : Int) < (↑(x.snd.snd.snd.fst.getD x.fst.toNat []).length : Int)) = false → ((0 :
  Int) ≤ x.fst ∧ x.fst < (↑x.snd.snd.snd.fst.length : Int)) ∧ ((0 : Int) ≤ x.fst ∧ x.fst < (↑x.snd.snd.snd.snd.snd.snd.length : Int)) ∧ ((0 : Int) ≤ x.fst ∧ x.fst <
  (↑x.snd.snd.snd.fst.length : Int)) ∧ ((0 : Int) ≤ (0 : Int) ∧ (0 : Int) ≤ (↑(x.snd.snd.snd.fst.getD x.fst.toNat []).length : Int) ∧ (↑(x.snd.snd.snd.fst.getD x.fst.toNat
  []).length : Int) ≤ (↑(x.snd.snd.snd.snd.snd.snd.getD x.fst.toNat []).length : Int)) ∧ True ∧ ((!decide (x.snd.snd.snd.fst.getD x.fst.toNat [] = List.take
  ((↑(x.snd.snd.snd.fst.getD x.fst.toNat []).length : Int).toNat - (0 : Nat)) (List.drop (0 : Nat) (x.snd.snd.snd.snd.snd.snd.getD x.fst.toNat [])))) = true → false = true) ∧
  ((!decide (x.snd.snd.snd.fst.getD x.fst.toNat [] = List.take ((↑(x.snd.snd.snd.fst.getD x.fst.toNat []).length : Int).toNat - (0 : Nat)) (List.drop (0 : Nat)
  (x.snd.snd.snd.snd.snd.snd.getD x.fst.toNat [])))) = false → isI64 (x.fst + (1 : Int)) ∧ I (x.fst + (1 : Int), x.snd.fst, x.snd.snd.fst, x.snd.snd.snd.fst, x.snd.snd.snd.snd.fst,
  x.snd.snd.snd.snd.snd.fst, x.snd.snd.snd.snd.snd.snd) ∧ μ (x.fst + (1 : Int), x.snd.fst, x.snd.snd.fst, x.snd.snd.snd.fst, x.snd.snd.snd.snd.fst, x.snd.snd.snd.snd.snd.fst,
  x.snd.snd.snd.snd.snd.snd) < μ x)))) ∧ (decide (x.fst < (↑x.snd.snd.snd.fst.length : Int)) = false → (∀ (k : Nat), k < l.length → rightB (x.snd.fst, x.snd.snd.fst,
  x.snd.snd.snd.fst, ()) m (l.getD k []) (l.getD k []) = true) ∧ (∀ (k : Nat), k < l.length → rightB (x.snd.snd.snd.snd.fst, x.snd.snd.snd.snd.snd.fst, x.snd.snd.snd.snd.snd.snd,
  ()) m (l.getD k []) (l.getD k []) = true) ∧ True ∧ (true = true → (decide (worstS (x.snd.snd.snd.snd.fst, x.snd.snd.snd.snd.snd.fst, x.snd.snd.snd.snd.snd.snd, ()) m l ≤ worstS
  (x.snd.fst, x.snd.snd.fst, x.snd.snd.snd.fst, ()) m l) = true → (decide ((1 : Int) + (IntKind.i64.wrap (min one two)).tmod (50 : Int) < (↑l.length : Int)) = true → true = true) ∧
  (decide ((1 : Int) + (IntKind.i64.wrap (min one two)).tmod (50 : Int) < (↑l.length : Int)) = false → decide (worstS (x.snd.fst, x.snd.snd.fst, x.snd.snd.snd.fst, ()) m l = (0 :
  Int)) = true)) ∧ (decide (worstS (x.snd.snd.snd.snd.fst, x.snd.snd.snd.snd.snd.fst, x.snd.snd.snd.snd.snd.snd, ()) m l ≤ worstS (x.snd.fst, x.snd.snd.fst, x.snd.snd.snd.fst, ())
  m l) = false → false = true)) ∧ (true = false → false = true)))))))) := by kernel_rfl
end Go.Proofs.Ytjppchomonpfgaa
