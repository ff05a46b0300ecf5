import Derived.Test.YtdeleoaeegmhlaaMYe
namespace Go.PL
open Go.AM
set_option linter.unusedVariables false
/-- The number of splits, or more than most. -/
def partsL (f : Sp → Int → Int) (most : Int) : List Sp → Int → Int
  | [], n => n
  | y :: l, n => if n ≤ most then partsL f most l (n + f y (most - n)) else n
def partsN : Nat → Sp → Int → Int
  | 0, _, most => most + 1
  | k + 1, x, most => partsL (partsN k) most x.subs (1 + (offs x).length / 50)
def parts1 (k : Nat) (x : Sp) (most : Int) : Int := partsN (k + 1) x most
def leafC (x : Sp) (most : Int) : Int := if decide (axisOf x = 0) && (decide (atOf x = 0) && goodS (offs x)) then 1 else most + 1
/-- The number of regions, or more than most. -/
def countN : Nat → Sp → Box → Int → Int
  | 0, _, _, most => most + 1
  | n + 1, x, b, most => if most < 1 then 1 else if x.subs.length = 0 then leafC x most else if forkOk x b then
      (if countN n (subOf x 0) (lowB b (axisOf x) (atOf x)) (most - 1) ≥ most then most + 1 else
        countN n (subOf x 0) (lowB b (axisOf x) (atOf x)) (most - 1) + countN n (subOf x 1) (highB b (axisOf x) (atOf x)) (most - countN n (subOf x 0) (lowB b (axisOf x) (atOf x)) (most - 1)))
    else most + 1
def count1 (n : Nat) (x : Sp) (b : Box) (most : Int) : Int := countN (n + 1) x b most
end Go.PL
namespace Go.Proofs.Ytdeleoaeegmhlaa
open Go.AM Go.PL
set_option linter.unusedVariables false
def partsSp (k : Nat) : FSpec := ⟨[ST, I, I], [I], fun x => (x.2.2 : Int) = (k : Int) ∧ 0 ≤ (x.2.1 : Int) ∧ (x.2.1 : Int) ≤ 1000, fun x => partsN k x.1 x.2.1⟩
def parts1Sp (k : Nat) : FSpec := ⟨[ST, I, I], [I], fun x => (x.2.2 : Int) = ((k : Int) + 1) ∧ 0 ≤ (x.2.1 : Int) ∧ (x.2.1 : Int) ≤ 1000, fun x => parts1 k x.1 x.2.1⟩
def parts0Sp : FSpec := ⟨[ST, I, I], [I], fun x => (x.2.2 : Int) = 0 ∧ 0 ≤ (x.2.1 : Int) ∧ (x.2.1 : Int) ≤ 1000, fun x => (x.2.1 : Int) + 1⟩
def countSp (n : Nat) : FSpec := ⟨[ST, BX, I], [I], fun x => deepN n x.1 ∧ evenB x.2.1 ∧ 0 ≤ (x.2.2 : Int) ∧ (x.2.2 : Int) ≤ 64, fun x => countN n x.1 x.2.1 x.2.2⟩
def count1Sp (n : Nat) : FSpec := ⟨[ST, BX, I], [I], fun x => deepN (n + 1) x.1 ∧ evenB x.2.1 ∧ 0 ≤ (x.2.2 : Int) ∧ (x.2.2 : Int) ≤ 64, fun x => count1 n x.1 x.2.1 x.2.2⟩
def hintP (f : FuncId) : Hint := ⟨fun _ => bif Nat.beq f 26 then [.slot 7 I, .slot 8 I] else bif Nat.beq f 9 then [.slot 3 I] else [], fun r => .split, fun t => .split, fun r => 0⟩
def hintP0 (f : FuncId) : Hint := ⟨fun _ => [], fun r => .split, fun t => bif Nat.beq f 26 && Nat.beq t 10 then .yes else .split, fun r => 0⟩
def tYi : List (FuncId × FSpec) := [(59, goodSp), (60, cutsSp), (61, lowSp), (62, highSp), (28, wholeSp)]
noncomputable def YP0 : Ctx := mkctx bs [] [] hintP
noncomputable def YP00 : Ctx := mkctx bs [] [] hintP0
noncomputable def YP (k : Nat) : Ctx := mkctx bs [(26, partsSp k)] [] hintP
noncomputable def YC (n : Nat) : Ctx := mkctx bs ((27, countSp n) :: tYi) [] hintP
theorem parts0_nf (x : Sp) (m d : Int) : fnwp YP00 6 26 parts0Sp (x, m, d) = (decide (d < (1 : Int)) = true ∧ isI64 (m + (1 : Int)) ∧ m + (1 : Int) = m + (1 : Int)) := by
  kernel_rfl
theorem parts1_nf (k : Nat) (x : Sp) (m d : Int) : fnwp (YP k) 6 26 (parts1Sp k) (x, m, d) = ((decide (d < (1 : Int)) = true → isI64 (m + (1 : Int)) ∧ m + (1 : Int) = parts1 k x m)
  ∧ (decide (d < (1 : Int)) = false → ((50 : Int) ≠ (0 : Int) ∧ isI64 ((↑(Rose.val x).snd.fst.length : Int).tdiv (50 : Int))) ∧ isI64 ((1 : Int) + (↑(Rose.val x).snd.fst.length :
  Int).tdiv (50 : Int)) ∧ ∃ (I : Int × Int → Prop), ∃ (μ : Int × Int → Nat), I ((1 : Int) + (↑(Rose.val x).snd.fst.length : Int).tdiv (50 : Int), (0 : Int)) ∧ ∀ (x_1 : Int × Int),
  I x_1 → (decide (x_1.snd < (↑(Rose.subs x).length : Int)) = true → (decide (x_1.fst ≤ m) = true → ((0 : Int) ≤ x_1.snd ∧ x_1.snd < (↑(Rose.subs x).length : Int)) ∧ isI64 (m -
  x_1.fst) ∧ isI64 (d - (1 : Int)) ∧ (d - (1 : Int) = (↑k : Int) ∧ (0 : Int) ≤ m - x_1.fst ∧ m - x_1.fst ≤ (1000 : Int)) ∧ isI64 (x_1.fst + partsN k ((Rose.subs x).getD
  x_1.snd.toNat (Rose.node (((0 : Int), (0 : Int), ()), [], ()) [])) (m - x_1.fst)) ∧ isI64 (x_1.snd + (1 : Int)) ∧ I (x_1.fst + partsN k ((Rose.subs x).getD x_1.snd.toNat
  (Rose.node (((0 : Int), (0 : Int), ()), [], ()) [])) (m - x_1.fst), x_1.snd + (1 : Int)) ∧ μ (x_1.fst + partsN k ((Rose.subs x).getD x_1.snd.toNat (Rose.node (((0 : Int), (0 :
  Int), ()), [], ()) [])) (m - x_1.fst), x_1.snd + (1 : Int)) < μ x_1) ∧ (decide (x_1.fst ≤ m) = false → x_1.fst = parts1 k x m)) ∧ (decide (x_1.snd < (↑(Rose.subs x).length :
  Int)) = false → x_1.fst = parts1 k x m))) := by kernel_rfl
theorem count1_nf (n : Nat) (x : Sp) (b : Box) (m : Int) : fnwp (YC n) 6 27 (count1Sp n) (x, b, m) = ((decide (m < (1 : Int)) = true → (1 : Int) = count1 n x b m) ∧ (decide (m < (1
  : Int)) = false → (decide ((↑(Rose.subs x).length : Int) = (0 : Int)) = true → ((!decide ((Rose.val x).fst.fst = (0 : Int))) = true → isI64 (m + (1 : Int)) ∧ m + (1 : Int) =
  count1 n x b m) ∧ ((!decide ((Rose.val x).fst.fst = (0 : Int))) = false → ((!decide ((Rose.val x).fst.snd.fst = (0 : Int))) = true → isI64 (m + (1 : Int)) ∧ m + (1 : Int) =
  count1 n x b m) ∧ ((!decide ((Rose.val x).fst.snd.fst = (0 : Int))) = false → True ∧ ((!goodS (Rose.val x).snd.fst) = true → isI64 (m + (1 : Int)) ∧ m + (1 : Int) = count1 n x b
  m) ∧ ((!goodS (Rose.val x).snd.fst) = false → (1 : Int) = count1 n x b m)))) ∧ (decide ((↑(Rose.subs x).length : Int) = (0 : Int)) = false → ((!decide ((↑(Rose.subs x).length :
  Int) = (2 : Int))) = true → isI64 (m + (1 : Int)) ∧ m + (1 : Int) = count1 n x b m) ∧ ((!decide ((↑(Rose.subs x).length : Int) = (2 : Int))) = false → (decide ((0 : Int) <
  (↑(Rose.val x).snd.fst.length : Int)) = true → isI64 (m + (1 : Int)) ∧ m + (1 : Int) = count1 n x b m) ∧ (decide ((0 : Int) < (↑(Rose.val x).snd.fst.length : Int)) = false →
  evenB b ∧ ((!cutsB b (Rose.val x).fst.fst (Rose.val x).fst.snd.fst) = true → isI64 (m + (1 : Int)) ∧ m + (1 : Int) = count1 n x b m) ∧ ((!cutsB b (Rose.val x).fst.fst (Rose.val
  x).fst.snd.fst) = false → ((0 : Int) ≤ (0 : Int) ∧ (0 : Int) < (↑(Rose.subs x).length : Int)) ∧ (evenB b ∧ cutsB b (Rose.val x).fst.fst (Rose.val x).fst.snd.fst = true) ∧ isI64
  (m - (1 : Int)) ∧ (deepN n ((Rose.subs x).getD (0 : Nat) (Rose.node (((0 : Int), (0 : Int), ()), [], ()) [])) ∧ evenB (lowB b (Rose.val x).fst.fst (Rose.val x).fst.snd.fst) ∧ (0
  : Int) ≤ m - (1 : Int) ∧ m - (1 : Int) ≤ (64 : Int)) ∧ (decide (m ≤ countN n ((Rose.subs x).getD (0 : Nat) (Rose.node (((0 : Int), (0 : Int), ()), [], ()) [])) (lowB b (Rose.val
  x).fst.fst (Rose.val x).fst.snd.fst) (m - (1 : Int))) = true → isI64 (m + (1 : Int)) ∧ m + (1 : Int) = count1 n x b m) ∧ (decide (m ≤ countN n ((Rose.subs x).getD (0 : Nat)
  (Rose.node (((0 : Int), (0 : Int), ()), [], ()) [])) (lowB b (Rose.val x).fst.fst (Rose.val x).fst.snd.fst) (m - (1 : Int))) = false → ((0 : Int) ≤ (1 : Int) ∧ (1 : Int) <
  (↑(Rose.subs x).length : Int)) ∧ (evenB b ∧ cutsB b (Rose.val x).fst.fst (Rose.val x).fst.snd.fst = true) ∧ isI64 (m - countN n ((Rose.subs x).getD (0 : Nat) (Rose.node (((0 :
  Int), (0 : Int), ()), [], ()) [])) (lowB b (Rose.val x).fst.fst (Rose.val x).fst.snd.fst) (m - (1 : Int))) ∧ (deepN n ((Rose.subs x).getD (1 : Nat) (Rose.node (((0 : Int), (0 :
  Int), ()), [], ()) [])) ∧ evenB (highB b (Rose.val x).fst.fst (Rose.val x).fst.snd.fst) ∧ (0 : Int) ≤ m - countN n ((Rose.subs x).getD (0 : Nat) (Rose.node (((0 : Int), (0 :
  Int), ()), [], ()) [])) (lowB b (Rose.val x).fst.fst (Rose.val x).fst.snd.fst) (m - (1 : Int)) ∧ m - countN n ((Rose.subs x).getD (0 : Nat) (Rose.node (((0 : Int), (0 : Int),
  ()), [], ()) [])) (lowB b (Rose.val x).fst.fst (Rose.val x).fst.snd.fst) (m - (1 : Int)) ≤ (64 : Int)) ∧ isI64 (countN n ((Rose.subs x).getD (0 : Nat) (Rose.node (((0 : Int), (0
  : Int), ()), [], ()) [])) (lowB b (Rose.val x).fst.fst (Rose.val x).fst.snd.fst) (m - (1 : Int)) + countN n ((Rose.subs x).getD (1 : Nat) (Rose.node (((0 : Int), (0 : Int), ()),
  [], ()) [])) (highB b (Rose.val x).fst.fst (Rose.val x).fst.snd.fst) (m - countN n ((Rose.subs x).getD (0 : Nat) (Rose.node (((0 : Int), (0 : Int), ()), [], ()) [])) (lowB b
  (Rose.val x).fst.fst (Rose.val x).fst.snd.fst) (m - (1 : Int)))) ∧ countN n ((Rose.subs x).getD (0 : Nat) (Rose.node (((0 : Int), (0 : Int), ()), [], ()) [])) (lowB b (Rose.val
  x).fst.fst (Rose.val x).fst.snd.fst) (m - (1 : Int)) + countN n ((Rose.subs x).getD (1 : Nat) (Rose.node (((0 : Int), (0 : Int), ()), [], ()) [])) (highB b (Rose.val x).fst.fst
  (Rose.val x).fst.snd.fst) (m - countN n ((Rose.subs x).getD (0 : Nat) (Rose.node (((0 : Int), (0 : Int), ()), [], ()) [])) (lowB b (Rose.val x).fst.fst (Rose.val x).fst.snd.fst)
  (m - (1 : Int))) = count1 n x b m))))))) := by kernel_rfl
theorem rVal4_nf (v : List Int) : fnwp YP0 6 9 bvecSp v = (∃ (I : Int → Prop), ∃ (μ : Int → Nat), I (0 : Int) ∧ ∀ (x : Int), I x → (decide (x < (↑v.length : Int)) = true → ((0 :
  Int) ≤ x ∧ x < (↑v.length : Int)) ∧ (decide (v.getD x.toNat (0 : Int) < (-1000 : Int)) = true → false = bvec v) ∧ (decide (v.getD x.toNat (0 : Int) < (-1000 : Int)) = false → ((0
  : Int) ≤ x ∧ x < (↑v.length : Int)) ∧ (decide ((1000 : Int) < v.getD x.toNat (0 : Int)) = true → false = bvec v) ∧ (decide ((1000 : Int) < v.getD x.toNat (0 : Int)) = false →
  isI64 (x + (1 : Int)) ∧ I (x + (1 : Int)) ∧ μ (x + (1 : Int)) < μ x))) ∧ (decide (x < (↑v.length : Int)) = false → (decide ((1 : Int) ≤ (↑v.length : Int)) = true → decide
  ((↑v.length : Int) ≤ (32 : Int)) = bvec v) ∧ (decide ((1 : Int) ≤ (↑v.length : Int)) = false → false = bvec v))) := by kernel_rfl
end Go.Proofs.Ytdeleoaeegmhlaa
