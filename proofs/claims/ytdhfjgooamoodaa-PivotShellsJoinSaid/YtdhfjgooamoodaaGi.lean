import Derived.Test.YtdhfjgooamoodaaGh
namespace Go.Proofs.Ytdhfjgooamoodaa
open Go.AM Go.PL
set_option linter.unusedVariables false
def tG3 : List (FuncId × FSpec) := (11, chooseSp) :: (15, rChooseSp) :: (12, nearestSp) :: (16, rNearestSp) :: (21, bothSp) ::
  (14, tableSp) :: (24, validShSp) :: tG2
theorem satG3 : AllSat bs.P tG3 := ⟨sat_choose, sat_rChoose, sat_nearest, sat_rNearest, sat_both, sat_table, sat_validSh, satG2⟩
noncomputable def G3 : Ctx := mkctx bs tG3 [] hintG
theorem ssG3 : SpecSound G3 := mkctx_sound satG3 trivial
theorem rTable_nf (m : Int) (p l : List (List Int)) : fnwp G3 6 18 rTableSp (m, p, l) = (True ∧ ((!bothB m p l) = true → ([], (1 : Int), ()) = ((tableR m p l).fst, (tableR m p
  l).snd, ())) ∧ ((!bothB m p l) = false → ∃ (I : List (List Int) × Int → Prop), ∃ (μ : List (List Int) × Int → Nat), I ([], (0 : Int)) ∧ ∀ (x : List (List Int) × Int), I x →
  (decide (x.snd < (↑l.length : Int)) = true → ((0 : Int) ≤ x.snd ∧ x.snd < (↑l.length : Int)) ∧ (pivB m p = true ∧ alikeB (p.getD (0 : Nat) []) (l.getD x.snd.toNat []) = true) ∧
  roomP G3 (23 : Nat) (x.fst.length + [keysS m p (l.getD x.snd.toNat [])].length) ∧ isI64 (x.snd + (1 : Int)) ∧ I (x.fst ++ [keysS m p (l.getD x.snd.toNat [])], x.snd + (1 : Int))
  ∧ μ (x.fst ++ [keysS m p (l.getD x.snd.toNat [])], x.snd + (1 : Int)) < μ x) ∧ (decide (x.snd < (↑l.length : Int)) = false → (x.fst, (0 : Int), ()) = ((tableR m p l).fst, (tableR
  m p l).snd, ())))) := by kernel_rfl
theorem rCover_nf (m : Int) (p l : List (List Int)) : fnwp G3 6 17 rCoverSp (m, p, l) = (True ∧ ((!bothB m p l) = true → ((0 : Int), (0 : Int), (1 : Int), ()) = ((0 : Int), (coverR
  m p l).fst, (coverR m p l).snd, ())) ∧ ((!bothB m p l) = false → ∃ (I : Int × Int → Prop), ∃ (μ : Int × Int → Nat), I ((0 : Int), (0 : Int)) ∧ ∀ (x : Int × Int), I x → (decide
  (x.snd < (↑l.length : Int)) = true → ((0 : Int) ≤ x.snd ∧ x.snd < (↑l.length : Int)) ∧ nearP3 m p (l.getD x.snd.toNat []) ∧ isI64 (x.snd + (1 : Int)) ∧ I (max x.fst (nearK m p
  (l.getD x.snd.toNat [])), x.snd + (1 : Int)) ∧ μ (max x.fst (nearK m p (l.getD x.snd.toNat [])), x.snd + (1 : Int)) < μ x) ∧ (decide (x.snd < (↑l.length : Int)) = false → ((0 :
  Int), x.fst, (0 : Int), ()) = ((0 : Int), (coverR m p l).fst, (coverR m p l).snd, ())))) := by kernel_rfl
theorem cover_nf (m : Int) (p l : List (List Int)) : fnwp G3 6 13 coverSp (m, p, l) = (True ∧ ((!decide ((tableR m p l).snd = (0 : Int))) = true → ((0 : Int), (tableR m p l).snd) =
  coverR m p l) ∧ ((!decide ((tableR m p l).snd = (0 : Int))) = false → ∃ (I : Int × Int → Prop), ∃ (μ : Int × Int → Nat), I ((0 : Int), (0 : Int)) ∧ ∀ (x : Int × Int), I x →
  (decide (x.snd < (↑(tableR m p l).fst.length : Int)) = true → ((0 : Int) ≤ x.snd ∧ x.snd < (↑(tableR m p l).fst.length : Int)) ∧ (1 : Nat) ≤ ((tableR m p l).fst.getD x.snd.toNat
  []).length ∧ isI64 (x.snd + (1 : Int)) ∧ I (max x.fst (minL ((tableR m p l).fst.getD x.snd.toNat [])), x.snd + (1 : Int)) ∧ μ (max x.fst (minL ((tableR m p l).fst.getD
  x.snd.toNat [])), x.snd + (1 : Int)) < μ x) ∧ (decide (x.snd < (↑(tableR m p l).fst.length : Int)) = false → (x.fst, (0 : Int)) = coverR m p l))) := by kernel_rfl
theorem shells_nf (m : Int) (p l : List (List Int)) : fnwp G3 6 23 shellsSp (m, p, l) = (True ∧ ((!decide ((tableR m p l).snd = (0 : Int))) = true → ([], (tableR m p l).snd) =
  shellsR m p l) ∧ ((!decide ((tableR m p l).snd = (0 : Int))) = false → ∃ (I : List (Int × Int × PUnit) × Int → Prop), ∃ (μ : List (Int × Int × PUnit) × Int → Nat), I ([], (0 :
  Int)) ∧ ∀ (x : List (Int × Int × PUnit) × Int), I x → (decide (x.snd < (↑p.length : Int)) = true → ((0 : Int) ≤ (0 : Int) ∧ (0 : Int) < (↑(tableR m p l).fst.length : Int)) ∧ ((0
  : Int) ≤ x.snd ∧ x.snd < (↑((tableR m p l).fst.getD (0 : Nat) []).length : Int)) ∧ ((0 : Int) ≤ (0 : Int) ∧ (0 : Int) < (↑(tableR m p l).fst.length : Int)) ∧ ((0 : Int) ≤ x.snd ∧
  x.snd < (↑((tableR m p l).fst.getD (0 : Nat) []).length : Int)) ∧ ∃ (I_1 : List (Int × Int × PUnit) × Int × Int × Int → Prop), ∃ (μ_1 : List (Int × Int × PUnit) × Int × Int × Int
  → Nat), I_1 (x.fst, (0 : Int), ((tableR m p l).fst.getD (0 : Nat) []).getD x.snd.toNat (0 : Int), ((tableR m p l).fst.getD (0 : Nat) []).getD x.snd.toNat (0 : Int)) ∧ ∀ (x_1 :
  List (Int × Int × PUnit) × Int × Int × Int), I_1 x_1 → (decide (x_1.snd.fst < (↑(tableR m p l).fst.length : Int)) = true → ((0 : Int) ≤ x_1.snd.fst ∧ x_1.snd.fst < (↑(tableR m p
  l).fst.length : Int)) ∧ ((0 : Int) ≤ x.snd ∧ x.snd < (↑((tableR m p l).fst.getD x_1.snd.fst.toNat []).length : Int)) ∧ True ∧ isI64 (x_1.snd.fst + (1 : Int)) ∧ I_1 (x_1.fst,
  x_1.snd.fst + (1 : Int), (withS (x_1.snd.snd.fst, x_1.snd.snd.snd, ()) (((tableR m p l).fst.getD x_1.snd.fst.toNat []).getD x.snd.toNat (0 : Int))).fst, (withS (x_1.snd.snd.fst,
  x_1.snd.snd.snd, ()) (((tableR m p l).fst.getD x_1.snd.fst.toNat []).getD x.snd.toNat (0 : Int))).snd.fst) ∧ μ_1 (x_1.fst, x_1.snd.fst + (1 : Int), (withS (x_1.snd.snd.fst,
  x_1.snd.snd.snd, ()) (((tableR m p l).fst.getD x_1.snd.fst.toNat []).getD x.snd.toNat (0 : Int))).fst, (withS (x_1.snd.snd.fst, x_1.snd.snd.snd, ()) (((tableR m p l).fst.getD
  x_1.snd.fst.toNat []).getD x.snd.toNat (0 : Int))).snd.fst) < μ_1 x_1) ∧ (decide (x_1.snd.fst < (↑(tableR m p l).fst.length : Int)) = false → roomP G3 (57 : Nat) (x_1.fst.length
  + [(x_1.snd.snd.fst, x_1.snd.snd.snd, ())].length) ∧ isI64 (x.snd + (1 : Int)) ∧ I (x_1.fst ++ [(x_1.snd.snd.fst, x_1.snd.snd.snd, ())], x.snd + (1 : Int)) ∧ μ (x_1.fst ++
  [(x_1.snd.snd.fst, x_1.snd.snd.snd, ())], x.snd + (1 : Int)) < μ x)) ∧ (decide (x.snd < (↑p.length : Int)) = false → (x.fst, (0 : Int)) = shellsR m p l))) := by kernel_rfl
theorem in_nf (a : List Shell) (ks : List Int) : fnwp G3 6 28 inSp (a, ks) = (True ∧ ((!validB a) = true → false = inB a ks) ∧ ((!validB a) = false → ((!decide ((↑ks.length : Int)
  = (↑a.length : Int))) = true → false = inB a ks) ∧ ((!decide ((↑ks.length : Int) = (↑a.length : Int))) = false → ∃ (I : Int → Prop), ∃ (μ : Int → Nat), I (0 : Int) ∧ ∀ (x : Int),
  I x → (decide (x < (↑a.length : Int)) = true → ((0 : Int) ≤ x ∧ x < (↑a.length : Int)) ∧ True ∧ ((0 : Int) ≤ x ∧ x < (↑ks.length : Int)) ∧ True ∧ ((!hasS ((a.getD x.toNat ((0 :
  Int), (0 : Int), ())).fst, (a.getD x.toNat ((0 : Int), (0 : Int), ())).snd.fst, ()) (ks.getD x.toNat (0 : Int))) = true → false = inB a ks) ∧ ((!hasS ((a.getD x.toNat ((0 : Int),
  (0 : Int), ())).fst, (a.getD x.toNat ((0 : Int), (0 : Int), ())).snd.fst, ()) (ks.getD x.toNat (0 : Int))) = false → isI64 (x + (1 : Int)) ∧ I (x + (1 : Int)) ∧ μ (x + (1 : Int))
  < μ x)) ∧ (decide (x < (↑a.length : Int)) = false → true = inB a ks)))) := by kernel_rfl
theorem join_nf (a b : List Shell) : fnwp G3 6 33 joinSp (a, b) = (True ∧ ((!validB a) = true → ([], (1 : Int)) = joinR a b) ∧ ((!validB a) = false → True ∧ ((!validB b) = true →
  ([], (1 : Int)) = joinR a b) ∧ ((!validB b) = false → ((!decide ((↑a.length : Int) = (↑b.length : Int))) = true → ([], (1 : Int)) = joinR a b) ∧ ((!decide ((↑a.length : Int) =
  (↑b.length : Int))) = false → ∃ (I : List (Int × Int × PUnit) × Int → Prop), ∃ (μ : List (Int × Int × PUnit) × Int → Nat), I ([], (0 : Int)) ∧ ∀ (x : List (Int × Int × PUnit) ×
  Int), I x → (decide (x.snd < (↑a.length : Int)) = true → ((0 : Int) ≤ x.snd ∧ x.snd < (↑a.length : Int)) ∧ True ∧ ((0 : Int) ≤ x.snd ∧ x.snd < (↑b.length : Int)) ∧ True ∧ ((0 :
  Int) ≤ x.snd ∧ x.snd < (↑b.length : Int)) ∧ True ∧ roomP G3 (57 : Nat) (x.fst.length + [((withS (withS ((a.getD x.snd.toNat ((0 : Int), (0 : Int), ())).fst, (a.getD x.snd.toNat
  ((0 : Int), (0 : Int), ())).snd.fst, ()) (b.getD x.snd.toNat ((0 : Int), (0 : Int), ())).fst) (b.getD x.snd.toNat ((0 : Int), (0 : Int), ())).snd.fst).fst, (withS (withS ((a.getD
  x.snd.toNat ((0 : Int), (0 : Int), ())).fst, (a.getD x.snd.toNat ((0 : Int), (0 : Int), ())).snd.fst, ()) (b.getD x.snd.toNat ((0 : Int), (0 : Int), ())).fst) (b.getD x.snd.toNat
  ((0 : Int), (0 : Int), ())).snd.fst).snd.fst, ())].length) ∧ isI64 (x.snd + (1 : Int)) ∧ I (x.fst ++ [((withS (withS ((a.getD x.snd.toNat ((0 : Int), (0 : Int), ())).fst, (a.getD
  x.snd.toNat ((0 : Int), (0 : Int), ())).snd.fst, ()) (b.getD x.snd.toNat ((0 : Int), (0 : Int), ())).fst) (b.getD x.snd.toNat ((0 : Int), (0 : Int), ())).snd.fst).fst, (withS
  (withS ((a.getD x.snd.toNat ((0 : Int), (0 : Int), ())).fst, (a.getD x.snd.toNat ((0 : Int), (0 : Int), ())).snd.fst, ()) (b.getD x.snd.toNat ((0 : Int), (0 : Int), ())).fst)
  (b.getD x.snd.toNat ((0 : Int), (0 : Int), ())).snd.fst).snd.fst, ())], x.snd + (1 : Int)) ∧ μ (x.fst ++ [((withS (withS ((a.getD x.snd.toNat ((0 : Int), (0 : Int), ())).fst,
  (a.getD x.snd.toNat ((0 : Int), (0 : Int), ())).snd.fst, ()) (b.getD x.snd.toNat ((0 : Int), (0 : Int), ())).fst) (b.getD x.snd.toNat ((0 : Int), (0 : Int), ())).snd.fst).fst,
  (withS (withS ((a.getD x.snd.toNat ((0 : Int), (0 : Int), ())).fst, (a.getD x.snd.toNat ((0 : Int), (0 : Int), ())).snd.fst, ()) (b.getD x.snd.toNat ((0 : Int), (0 : Int),
  ())).fst) (b.getD x.snd.toNat ((0 : Int), (0 : Int), ())).snd.fst).snd.fst, ())], x.snd + (1 : Int)) < μ x) ∧ (decide (x.snd < (↑a.length : Int)) = false → (x.fst, (0 : Int)) =
  joinR a b))))) := by kernel_rfl
theorem lo_nf (m : Int) (a : List Shell) (ks : List Int) : fnwp G3 6 25 loSp (m, a, ks) = (True ∧ ((!mValS m (0 : Int)) = true → ((0 : Int), (1 : Int)) = loR m a ks) ∧ ((!mValS m
  (0 : Int)) = false → True ∧ ((!validB a) = true → ((0 : Int), (1 : Int)) = loR m a ks) ∧ ((!validB a) = false → ((!decide ((↑ks.length : Int) = (↑a.length : Int))) = true → ((0 :
  Int), (1 : Int)) = loR m a ks) ∧ ((!decide ((↑ks.length : Int) = (↑a.length : Int))) = false → ∃ (I : Int × Int → Prop), ∃ (μ : Int × Int → Nat), I ((0 : Int), (0 : Int)) ∧ ∀ (x
  : Int × Int), I x → (decide (x.snd < (↑a.length : Int)) = true → ((0 : Int) ≤ x.snd ∧ x.snd < (↑a.length : Int)) ∧ True ∧ ((0 : Int) ≤ x.snd ∧ x.snd < (↑ks.length : Int)) ∧ True
  ∧ ((!hasS ((0 : Int), (134217728 : Int), ()) (ks.getD x.snd.toNat (0 : Int))) = true → ((0 : Int), (1 : Int)) = loR m a ks) ∧ ((!hasS ((0 : Int), (134217728 : Int), ()) (ks.getD
  x.snd.toNat (0 : Int))) = false → ((0 : Int) ≤ x.snd ∧ x.snd < (↑ks.length : Int)) ∧ (keyP (a.getD x.snd.toNat ((0 : Int), (0 : Int), ())).fst ∧ keyP (a.getD x.snd.toNat ((0 :
  Int), (0 : Int), ())).snd.fst ∧ keyP (ks.getD x.snd.toNat (0 : Int))) ∧ isI64 (x.snd + (1 : Int)) ∧ I (max x.fst (lowS m (ks.getD x.snd.toNat (0 : Int)) (max (a.getD x.snd.toNat
  ((0 : Int), (0 : Int), ())).fst (min (ks.getD x.snd.toNat (0 : Int)) (a.getD x.snd.toNat ((0 : Int), (0 : Int), ())).snd.fst))), x.snd + (1 : Int)) ∧ μ (max x.fst (lowS m
  (ks.getD x.snd.toNat (0 : Int)) (max (a.getD x.snd.toNat ((0 : Int), (0 : Int), ())).fst (min (ks.getD x.snd.toNat (0 : Int)) (a.getD x.snd.toNat ((0 : Int), (0 : Int),
  ())).snd.fst))), x.snd + (1 : Int)) < μ x)) ∧ (decide (x.snd < (↑a.length : Int)) = false → (x.fst, (0 : Int)) = loR m a ks))))) := by kernel_rfl
theorem hi_nf (m : Int) (a : List Shell) (ks : List Int) : fnwp G3 6 26 hiSp (m, a, ks) = (True ∧ ((!mValS m (0 : Int)) = true → ((0 : Int), (1 : Int)) = hiR m a ks) ∧ ((!mValS m
  (0 : Int)) = false → True ∧ ((!validB a) = true → ((0 : Int), (1 : Int)) = hiR m a ks) ∧ ((!validB a) = false → ((!decide ((↑ks.length : Int) = (↑a.length : Int))) = true → ((0 :
  Int), (1 : Int)) = hiR m a ks) ∧ ((!decide ((↑ks.length : Int) = (↑a.length : Int))) = false → ∃ (I : Int × Int → Prop), ∃ (μ : Int × Int → Nat), I ((134217728 : Int), (0 : Int))
  ∧ ∀ (x : Int × Int), I x → (decide (x.snd < (↑a.length : Int)) = true → ((0 : Int) ≤ x.snd ∧ x.snd < (↑a.length : Int)) ∧ True ∧ ((0 : Int) ≤ x.snd ∧ x.snd < (↑ks.length : Int))
  ∧ True ∧ ((!hasS ((0 : Int), (134217728 : Int), ()) (ks.getD x.snd.toNat (0 : Int))) = true → ((0 : Int), (1 : Int)) = hiR m a ks) ∧ ((!hasS ((0 : Int), (134217728 : Int), ())
  (ks.getD x.snd.toNat (0 : Int))) = false → ((0 : Int) ≤ x.snd ∧ x.snd < (↑ks.length : Int)) ∧ (keyP (a.getD x.snd.toNat ((0 : Int), (0 : Int), ())).fst ∧ keyP (a.getD x.snd.toNat
  ((0 : Int), (0 : Int), ())).snd.fst ∧ keyP (ks.getD x.snd.toNat (0 : Int))) ∧ isI64 (x.snd + (1 : Int)) ∧ I (min x.fst (highS m (ks.getD x.snd.toNat (0 : Int)) (a.getD
  x.snd.toNat ((0 : Int), (0 : Int), ())).snd.fst), x.snd + (1 : Int)) ∧ μ (min x.fst (highS m (ks.getD x.snd.toNat (0 : Int)) (a.getD x.snd.toNat ((0 : Int), (0 : Int),
  ())).snd.fst), x.snd + (1 : Int)) < μ x)) ∧ (decide (x.snd < (↑a.length : Int)) = false → (x.fst, (0 : Int)) = hiR m a ks))))) := by kernel_rfl
theorem rLo_nf (m : Int) (a : List Shell) (ks : List Int) : fnwp G3 6 36 rLoSp (m, a, ks) = (True ∧ ((!askB m a ks) = true → ((0 : Int), (0 : Int), (1 : Int), ()) = ((0 : Int),
  (loR m a ks).fst, (loR m a ks).snd, ())) ∧ ((!askB m a ks) = false → ∃ (I : Int × Int → Prop), ∃ (μ : Int × Int → Nat), I ((0 : Int), (0 : Int)) ∧ ∀ (x : Int × Int), I x →
  (decide (x.snd < (↑a.length : Int)) = true → ((0 : Int) ≤ x.snd ∧ x.snd < (↑a.length : Int)) ∧ ((0 : Int) ≤ x.snd ∧ x.snd < (↑a.length : Int)) ∧ ((0 : Int) ≤ x.snd ∧ x.snd <
  (↑ks.length : Int)) ∧ (keyP (a.getD x.snd.toNat ((0 : Int), (0 : Int), ())).fst ∧ keyP (a.getD x.snd.toNat ((0 : Int), (0 : Int), ())).snd.fst ∧ keyP (ks.getD x.snd.toNat (0 :
  Int)) ∧ (a.getD x.snd.toNat ((0 : Int), (0 : Int), ())).fst ≤ (a.getD x.snd.toNat ((0 : Int), (0 : Int), ())).snd.fst) ∧ isI64 (x.snd + (1 : Int)) ∧ I (max x.fst (lowS m (ks.getD
  x.snd.toNat (0 : Int)) (max (a.getD x.snd.toNat ((0 : Int), (0 : Int), ())).fst (min (ks.getD x.snd.toNat (0 : Int)) (a.getD x.snd.toNat ((0 : Int), (0 : Int), ())).snd.fst))),
  x.snd + (1 : Int)) ∧ μ (max x.fst (lowS m (ks.getD x.snd.toNat (0 : Int)) (max (a.getD x.snd.toNat ((0 : Int), (0 : Int), ())).fst (min (ks.getD x.snd.toNat (0 : Int)) (a.getD
  x.snd.toNat ((0 : Int), (0 : Int), ())).snd.fst))), x.snd + (1 : Int)) < μ x) ∧ (decide (x.snd < (↑a.length : Int)) = false → ((0 : Int), x.fst, (0 : Int), ()) = ((0 : Int), (loR
  m a ks).fst, (loR m a ks).snd, ())))) := by kernel_rfl
theorem rHi_nf (m : Int) (a : List Shell) (ks : List Int) : fnwp G3 6 37 rHiSp (m, a, ks) = (True ∧ ((!askB m a ks) = true → ((0 : Int), (0 : Int), (1 : Int), ()) = ((0 : Int),
  (hiR m a ks).fst, (hiR m a ks).snd, ())) ∧ ((!askB m a ks) = false → ∃ (I : Int × Int → Prop), ∃ (μ : Int × Int → Nat), I ((134217728 : Int), (0 : Int)) ∧ ∀ (x : Int × Int), I x
  → (decide (x.snd < (↑a.length : Int)) = true → ((0 : Int) ≤ x.snd ∧ x.snd < (↑a.length : Int)) ∧ ((0 : Int) ≤ x.snd ∧ x.snd < (↑a.length : Int)) ∧ ((0 : Int) ≤ x.snd ∧ x.snd <
  (↑ks.length : Int)) ∧ (keyP (a.getD x.snd.toNat ((0 : Int), (0 : Int), ())).fst ∧ keyP (a.getD x.snd.toNat ((0 : Int), (0 : Int), ())).snd.fst ∧ keyP (ks.getD x.snd.toNat (0 :
  Int)) ∧ (a.getD x.snd.toNat ((0 : Int), (0 : Int), ())).fst ≤ (a.getD x.snd.toNat ((0 : Int), (0 : Int), ())).snd.fst) ∧ isI64 (x.snd + (1 : Int)) ∧ I (min x.fst (highS m
  (ks.getD x.snd.toNat (0 : Int)) (a.getD x.snd.toNat ((0 : Int), (0 : Int), ())).snd.fst), x.snd + (1 : Int)) ∧ μ (min x.fst (highS m (ks.getD x.snd.toNat (0 : Int)) (a.getD
  x.snd.toNat ((0 : Int), (0 : Int), ())).snd.fst), x.snd + (1 : Int)) < μ x) ∧ (decide (x.snd < (↑a.length : Int)) = false → ((0 : Int), x.fst, (0 : Int), ()) = ((0 : Int), (hiR m
  a ks).fst, (hiR m a ks).snd, ())))) := by kernel_rfl
end Go.Proofs.Ytdhfjgooamoodaa
