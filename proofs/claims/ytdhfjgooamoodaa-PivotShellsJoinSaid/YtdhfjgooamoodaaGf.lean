import Derived.Test.YtdhfjgooamoodaaGe
namespace Go.Proofs.Ytdhfjgooamoodaa
open Go.AM Go.PL
set_option linter.unusedVariables false
def tG2 : List (FuncId × FSpec) := (57, hasSp) :: (46, pivSp) :: (51, pivSp) :: (47, keysSp) :: (53, keysSp) ::
  (20, sameRSp) :: (68, askSp) :: (40, inSp) :: (35, rJoinSp) :: tG1
theorem satG2 : AllSat bs.P tG2 := ⟨sat_has, sat_piv, sat_rPiv, sat_keys, sat_rKeys, sat_sameR, sat_rAsk, sat_rIn, sat_rJoin, satG1⟩
noncomputable def G2 : Ctx := mkctx bs tG2 [(43, repG)] hintG
theorem ssG2 : SpecSound G2 := mkctx_sound satG2 ⟨sat_rep, trivial⟩
theorem choose_nf (m : Int) (l : List (List Int)) (n : Int) : fnwp G2 6 11 chooseSp (m, l, n) = (True ∧ ((!mValS m (0 : Int)) = true → ([], (1 : Int)) = chooseR m l n) ∧ ((!mValS m
  (0 : Int)) = false → True ∧ ((!fitB l) = true → ([], (1 : Int)) = chooseR m l n) ∧ ((!fitB l) = false → (decide (n < (1 : Int)) = true → ([], (1 : Int)) = chooseR m l n) ∧
  (decide (n < (1 : Int)) = false → (decide ((8 : Int) < n) = true → ([], (1 : Int)) = chooseR m l n) ∧ (decide ((8 : Int) < n) = false → ([(134217728 : Int)].length = (1 : Nat) ∧
  (1 : Int) ≤ (↑l.length : Int) ∧ (↑l.length : Int) ≤ (1000000 : Int)) ∧ ∃ (I : Int × Int × List (List Int) × List Int → Prop), ∃ (μ : Int × Int × List (List Int) × List Int →
  Nat), I ((0 : Int), m, l, List.replicate (↑l.length : Int).toNat ([(134217728 : Int)].getD (0 : Nat) (0 : Int))) ∧ ∀ (x : Int × Int × List (List Int) × List Int), I x → (decide
  (x.fst < (↑l.length : Int)) = true → ((0 : Int) ≤ x.fst ∧ x.fst < (↑l.length : Int)) ∧ ((0 : Int) ≤ x.fst ∧ x.fst < (↑x.snd.snd.snd.length : Int)) ∧ ((0 : Int) ≤ (0 : Int) ∧ (0 :
  Int) < (↑x.snd.snd.fst.length : Int)) ∧ ((1 : Int) ≤ x.snd.fst ∧ x.snd.fst ≤ (3 : Int) ∧ small (64 : Nat) (4000 : Int) (x.snd.snd.fst.getD (0 : Nat) []) ∧ small (64 : Nat) (4000
  : Int) (l.getD x.fst.toNat []) ∧ (x.snd.snd.fst.getD (0 : Nat) []).length = (l.getD x.fst.toNat []).length) ∧ ((0 : Int) ≤ x.fst ∧ x.fst < (↑x.snd.snd.snd.length : Int)) ∧ isI64
  (x.fst + (1 : Int)) ∧ I (x.fst + (1 : Int), x.snd.fst, x.snd.snd.fst, x.snd.snd.snd.set x.fst.toNat (min (x.snd.snd.snd.getD x.fst.toNat (0 : Int)) (keyS x.snd.fst
  (x.snd.snd.fst.getD (0 : Nat) []) (l.getD x.fst.toNat [])))) ∧ μ (x.fst + (1 : Int), x.snd.fst, x.snd.snd.fst, x.snd.snd.snd.set x.fst.toNat (min (x.snd.snd.snd.getD x.fst.toNat
  (0 : Int)) (keyS x.snd.fst (x.snd.snd.fst.getD (0 : Nat) []) (l.getD x.fst.toNat [])))) < μ x) ∧ (decide (x.fst < (↑l.length : Int)) = false → (decide ((1 : Int) < n) = true → (1
  : Nat) ≤ x.snd.snd.snd.length ∧ True ∧ (decide (maxL x.snd.snd.snd = (0 : Int)) = true → ([(0 : Int)], (0 : Int)) = chooseR m l n) ∧ (decide (maxL x.snd.snd.snd = (0 : Int)) =
  false → ∃ (I : Int × Int × List (List Int) × List Int → Prop), ∃ (μ : Int × Int × List (List Int) × List Int → Nat), I ((0 : Int), x.snd.fst, x.snd.snd.fst, x.snd.snd.snd) ∧ ∀
  (x_1 : Int × Int × List (List Int) × List Int), I x_1 → (decide (x_1.fst < (↑x.snd.snd.fst.length : Int)) = true → ((0 : Int) ≤ x_1.fst ∧ x_1.fst < (↑x.snd.snd.fst.length : Int))
  ∧ ((0 : Int) ≤ x_1.fst ∧ x_1.fst < (↑x_1.snd.snd.snd.length : Int)) ∧ ((0 : Int) ≤ idxS x.snd.snd.snd (maxL x.snd.snd.snd) ∧ idxS x.snd.snd.snd (maxL x.snd.snd.snd) <
  (↑x_1.snd.snd.fst.length : Int)) ∧ ((1 : Int) ≤ x_1.snd.fst ∧ x_1.snd.fst ≤ (3 : Int) ∧ small (64 : Nat) (4000 : Int) (x_1.snd.snd.fst.getD (idxS x.snd.snd.snd (maxL
  x.snd.snd.snd)).toNat []) ∧ small (64 : Nat) (4000 : Int) (x.snd.snd.fst.getD x_1.fst.toNat []) ∧ (x_1.snd.snd.fst.getD (idxS x.snd.snd.snd (maxL x.snd.snd.snd)).toNat []).length
  = (x.snd.snd.fst.getD x_1.fst.toNat []).length) ∧ ((0 : Int) ≤ x_1.fst ∧ x_1.fst < (↑x_1.snd.snd.snd.length : Int)) ∧ isI64 (x_1.fst + (1 : Int)) ∧ I (x_1.fst + (1 : Int),
  x_1.snd.fst, x_1.snd.snd.fst, x_1.snd.snd.snd.set x_1.fst.toNat (min (x_1.snd.snd.snd.getD x_1.fst.toNat (0 : Int)) (keyS x_1.snd.fst (x_1.snd.snd.fst.getD (idxS x.snd.snd.snd
  (maxL x.snd.snd.snd)).toNat []) (x.snd.snd.fst.getD x_1.fst.toNat [])))) ∧ μ (x_1.fst + (1 : Int), x_1.snd.fst, x_1.snd.snd.fst, x_1.snd.snd.snd.set x_1.fst.toNat (min
  (x_1.snd.snd.snd.getD x_1.fst.toNat (0 : Int)) (keyS x_1.snd.fst (x_1.snd.snd.fst.getD (idxS x.snd.snd.snd (maxL x.snd.snd.snd)).toNat []) (x.snd.snd.fst.getD x_1.fst.toNat
  [])))) < μ x_1) ∧ (decide (x_1.fst < (↑x.snd.snd.fst.length : Int)) = false → roomP G2 (3 : Nat) ((1 : Nat) + [idxS x.snd.snd.snd (maxL x.snd.snd.snd)].length) ∧ ∃ (I : List Int
  × Int × List (List Int) × List Int → Prop), ∃ (μ : List Int × Int × List (List Int) × List Int → Nat), I ([(0 : Int)] ++ [idxS x.snd.snd.snd (maxL x.snd.snd.snd)], x_1.snd.fst,
  x_1.snd.snd.fst, x_1.snd.snd.snd) ∧ ∀ (x : List Int × Int × List (List Int) × List Int), I x → (decide ((↑x.fst.length : Int) < n) = true → (1 : Nat) ≤ x.snd.snd.snd.length ∧
  True ∧ (decide (maxL x.snd.snd.snd = (0 : Int)) = true → (x.fst, (0 : Int)) = chooseR m l n) ∧ (decide (maxL x.snd.snd.snd = (0 : Int)) = false → ∃ (I_1 : Int × Int × List (List
  Int) × List Int × List Int → Prop), ∃ (μ_1 : Int × Int × List (List Int) × List Int × List Int → Nat), I_1 ((0 : Int), x.snd.fst, x.snd.snd.fst, x.snd.snd.snd, x.fst) ∧ ∀ (x_2 :
  Int × Int × List (List Int) × List Int × List Int), I_1 x_2 → (decide (x_2.fst < (↑x.snd.snd.fst.length : Int)) = true → ((0 : Int) ≤ x_2.fst ∧ x_2.fst < (↑x.snd.snd.fst.length :
  Int)) ∧ ((0 : Int) ≤ x_2.fst ∧ x_2.fst < (↑x_2.snd.snd.snd.fst.length : Int)) ∧ ((0 : Int) ≤ idxS x.snd.snd.snd (maxL x.snd.snd.snd) ∧ idxS x.snd.snd.snd (maxL x.snd.snd.snd) <
  (↑x_2.snd.snd.fst.length : Int)) ∧ ((1 : Int) ≤ x_2.snd.fst ∧ x_2.snd.fst ≤ (3 : Int) ∧ small (64 : Nat) (4000 : Int) (x_2.snd.snd.fst.getD (idxS x.snd.snd.snd (maxL
  x.snd.snd.snd)).toNat []) ∧ small (64 : Nat) (4000 : Int) (x.snd.snd.fst.getD x_2.fst.toNat []) ∧ (x_2.snd.snd.fst.getD (idxS x.snd.snd.snd (maxL x.snd.snd.snd)).toNat []).length
  = (x.snd.snd.fst.getD x_2.fst.toNat []).length) ∧ ((0 : Int) ≤ x_2.fst ∧ x_2.fst < (↑x_2.snd.snd.snd.fst.length : Int)) ∧ isI64 (x_2.fst + (1 : Int)) ∧ I_1 (x_2.fst + (1 : Int),
  x_2.snd.fst, x_2.snd.snd.fst, x_2.snd.snd.snd.fst.set x_2.fst.toNat (min (x_2.snd.snd.snd.fst.getD x_2.fst.toNat (0 : Int)) (keyS x_2.snd.fst (x_2.snd.snd.fst.getD (idxS
  x.snd.snd.snd (maxL x.snd.snd.snd)).toNat []) (x.snd.snd.fst.getD x_2.fst.toNat []))), x_2.snd.snd.snd.snd) ∧ μ_1 (x_2.fst + (1 : Int), x_2.snd.fst, x_2.snd.snd.fst,
  x_2.snd.snd.snd.fst.set x_2.fst.toNat (min (x_2.snd.snd.snd.fst.getD x_2.fst.toNat (0 : Int)) (keyS x_2.snd.fst (x_2.snd.snd.fst.getD (idxS x.snd.snd.snd (maxL
  x.snd.snd.snd)).toNat []) (x.snd.snd.fst.getD x_2.fst.toNat []))), x_2.snd.snd.snd.snd) < μ_1 x_2) ∧ (decide (x_2.fst < (↑x.snd.snd.fst.length : Int)) = false → roomP G2 (3 :
  Nat) (x_2.snd.snd.snd.snd.length + [idxS x.snd.snd.snd (maxL x.snd.snd.snd)].length) ∧ I (x_2.snd.snd.snd.snd ++ [idxS x.snd.snd.snd (maxL x.snd.snd.snd)], x_2.snd.fst,
  x_2.snd.snd.fst, x_2.snd.snd.snd.fst) ∧ μ (x_2.snd.snd.snd.snd ++ [idxS x.snd.snd.snd (maxL x.snd.snd.snd)], x_2.snd.fst, x_2.snd.snd.fst, x_2.snd.snd.snd.fst) < μ x))) ∧ (decide
  ((↑x.fst.length : Int) < n) = false → (x.fst, (0 : Int)) = chooseR m l n)))) ∧ (decide ((1 : Int) < n) = false → ([(0 : Int)], (0 : Int)) = chooseR m l n))))))) := by kernel_rfl
theorem nearest_nf (m : Int) (p : List (List Int)) (v : List Int) : fnwp G2 6 12 nearestSp (m, p, v) = (True ∧ ((!pivB m p) = true → ((0 : Int), (0 : Int), (1 : Int)) = nearestS m
  p v) ∧ ((!pivB m p) = false → ((0 : Int) ≤ (0 : Int) ∧ (0 : Int) < (↑p.length : Int)) ∧ True ∧ ((!alikeB (p.getD (0 : Nat) []) v) = true → ((0 : Int), (0 : Int), (1 : Int)) =
  nearestS m p v) ∧ ((!alikeB (p.getD (0 : Nat) []) v) = false → (pivB m p = true ∧ alikeB (p.getD (0 : Nat) []) v = true) ∧ (1 : Nat) ≤ (keysS m p v).length ∧ True ∧ (idxS (keysS
  m p v) (minL (keysS m p v)), minL (keysS m p v), (0 : Int)) = nearestS m p v))) := by kernel_rfl
theorem rNearest_nf (m : Int) (p : List (List Int)) (v : List Int) : fnwp G2 6 16 rNearestSp (m, p, v) = (True ∧ ((!pivB m p) = true → ((0 : Int), (0 : Int), (1 : Int), ()) =
  ((nearestS m p v).fst, (nearestS m p v).snd.fst, (nearestS m p v).snd.snd, ())) ∧ ((!pivB m p) = false → ((0 : Int) ≤ (0 : Int) ∧ (0 : Int) < (↑p.length : Int)) ∧ True ∧
  ((!alikeB (p.getD (0 : Nat) []) v) = true → ((0 : Int), (0 : Int), (1 : Int), ()) = ((nearestS m p v).fst, (nearestS m p v).snd.fst, (nearestS m p v).snd.snd, ())) ∧ ((!alikeB
  (p.getD (0 : Nat) []) v) = false → nearP3 m p v ∧ ((↑(nearI m p v) : Int), nearK m p v, (0 : Int), ()) = ((nearestS m p v).fst, (nearestS m p v).snd.fst, (nearestS m p
  v).snd.snd, ())))) := by kernel_rfl
theorem both_nf (m : Int) (p l : List (List Int)) : fnwp G2 6 21 bothSp (m, p, l) = (True ∧ (pivB m p = true → True ∧ (fitB l = true → ((0 : Int) ≤ (0 : Int) ∧ (0 : Int) <
  (↑l.length : Int)) ∧ ((0 : Int) ≤ (0 : Int) ∧ (0 : Int) < (↑p.length : Int)) ∧ decide ((↑(l.getD (0 : Nat) []).length : Int) = (↑(p.getD (0 : Nat) []).length : Int)) = bothB m p
  l) ∧ (fitB l = false → false = bothB m p l)) ∧ (pivB m p = false → false = bothB m p l)) := by kernel_rfl
theorem table_nf (m : Int) (p l : List (List Int)) : fnwp G2 6 14 tableSp (m, p, l) = (True ∧ ((!pivB m p) = true → ([], (1 : Int)) = tableR m p l) ∧ ((!pivB m p) = false → True ∧
  ((!fitB l) = true → ([], (1 : Int)) = tableR m p l) ∧ ((!fitB l) = false → ((0 : Int) ≤ (0 : Int) ∧ (0 : Int) < (↑p.length : Int)) ∧ ((0 : Int) ≤ (0 : Int) ∧ (0 : Int) <
  (↑l.length : Int)) ∧ True ∧ ((!alikeB (p.getD (0 : Nat) []) (l.getD (0 : Nat) [])) = true → ([], (1 : Int)) = tableR m p l) ∧ ((!alikeB (p.getD (0 : Nat) []) (l.getD (0 : Nat)
  [])) = false → ∃ (I : List (List Int) × Int → Prop), ∃ (μ : List (List Int) × Int → Nat), I ([], (0 : Int)) ∧ ∀ (x : List (List Int) × Int), I x → (decide (x.snd < (↑l.length :
  Int)) = true → ((0 : Int) ≤ x.snd ∧ x.snd < (↑l.length : Int)) ∧ (pivB m p = true ∧ alikeB (p.getD (0 : Nat) []) (l.getD x.snd.toNat []) = true) ∧ roomP G2 (23 : Nat)
  (x.fst.length + [keysS m p (l.getD x.snd.toNat [])].length) ∧ isI64 (x.snd + (1 : Int)) ∧ I (x.fst ++ [keysS m p (l.getD x.snd.toNat [])], x.snd + (1 : Int)) ∧ μ (x.fst ++ [keysS
  m p (l.getD x.snd.toNat [])], x.snd + (1 : Int)) < μ x) ∧ (decide (x.snd < (↑l.length : Int)) = false → (x.fst, (0 : Int)) = tableR m p l))))) := by kernel_rfl
theorem validSh_nf (l : List Shell) : fnwp G2 6 24 validShSp l = (∃ (I : Int → Prop), ∃ (μ : Int → Nat), I (0 : Int) ∧ ∀ (x : Int), I x → (decide (x < (↑l.length : Int)) = true →
  ((0 : Int) ≤ x ∧ x < (↑l.length : Int)) ∧ (decide ((l.getD x.toNat ((0 : Int), (0 : Int), ())).snd.fst < (l.getD x.toNat ((0 : Int), (0 : Int), ())).fst) = true → false = validB
  l) ∧ (decide ((l.getD x.toNat ((0 : Int), (0 : Int), ())).snd.fst < (l.getD x.toNat ((0 : Int), (0 : Int), ())).fst) = false → True ∧ True ∧ ((!hasS ((0 : Int), (134217728 :
  Int), ()) (l.getD x.toNat ((0 : Int), (0 : Int), ())).fst) = true → false = validB l) ∧ ((!hasS ((0 : Int), (134217728 : Int), ()) (l.getD x.toNat ((0 : Int), (0 : Int),
  ())).fst) = false → True ∧ True ∧ ((!hasS ((0 : Int), (134217728 : Int), ()) (l.getD x.toNat ((0 : Int), (0 : Int), ())).snd.fst) = true → false = validB l) ∧ ((!hasS ((0 : Int),
  (134217728 : Int), ()) (l.getD x.toNat ((0 : Int), (0 : Int), ())).snd.fst) = false → isI64 (x + (1 : Int)) ∧ I (x + (1 : Int)) ∧ μ (x + (1 : Int)) < μ x)))) ∧ (decide (x <
  (↑l.length : Int)) = false → decide ((↑l.length : Int) ≤ (8 : Int)) = validB l)) := by kernel_rfl
end Go.Proofs.Ytdhfjgooamoodaa
