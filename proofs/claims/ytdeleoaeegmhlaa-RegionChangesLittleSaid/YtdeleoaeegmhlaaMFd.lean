import Derived.Test.YtdeleoaeegmhlaaMFb
--@abbr ((Rose.subs x).getD (0 : Nat) (Rose.node (((0 : Int), (0 : Int), ()), [], ()) [])) => (gS x 0)
--@abbr ((Rose.subs x).getD (1 : Nat) (Rose.node (((0 : Int), (0 : Int), ()), [], ()) [])) => (gS x 1)
--@abbr ((Rose.subs x).getD (2 : Nat) (Rose.node (((0 : Int), (0 : Int), ()), [], ()) [])) => (gS x 2)
--@abbr Rose.node (((gS x 0).val.fst.fst, (gS x 0).val.fst.snd.fst, ()), (gS x 0).val.snd.fst, ()) (gS x 0).subs => nS (gS x 0)
--@abbr Rose.node (((gS x 1).val.fst.fst, (gS x 1).val.fst.snd.fst, ()), (gS x 1).val.snd.fst, ()) (gS x 1).subs => nS (gS x 1)
--@abbr Rose.node (((gS x 2).val.fst.fst, (gS x 2).val.fst.snd.fst, ()), (gS x 2).val.snd.fst, ()) (gS x 2).subs => nS (gS x 2)
namespace Go.Proofs.Ytdeleoaeegmhlaa
open Go.AM Go.PL
set_option linter.unusedVariables false
def blkJ (y : Int × Bool × Int) : List Blk :=
  [.cells [.d I y.2.2], .gone, .cells [.fn 48 [.own 0 0]], .cells [.d .bool y.2.1], .cells [.fn 50 [.own 2 0, .own 3 0]], .gone, .cells [.d I y.1], .cells [.fn 71 [.own 6 0, .own 4 0, .own 7 0]]]
def joinH (n : Nat) : HSpec := ⟨[ST], [ST], [.cell 6 0 I, .cell 3 0 .bool, .cell 0 0 I], [.own 6 0, .own 4 0, .own 7 0], fun y => blkJ y, fun x y => preW n x y.1, fun x y => joinT n y.2.2 x y.1, fun x y => (fun z : Int × Bool × Int => (z.1 + leavesN n x, z.2.1 || foundT n z.2.2 x z.1, z.2.2)) y⟩
def join1H (n : Nat) : HSpec := ⟨[ST], [ST], [.cell 6 0 I, .cell 3 0 .bool, .cell 0 0 I], [.own 6 0, .own 4 0, .own 7 0], fun y => blkJ y, fun x y => preW1 n x y.1, fun x y => joinT1 n y.2.2 x y.1, fun x y => (fun z : Int × Bool × Int => (z.1 + leaves1 n x, z.2.1 || foundT1 n z.2.2 x z.1, z.2.2)) y⟩
def lasJ (f : FuncId) (r : Nat) : List LA := bif Nat.beq f 86 then [.cell 6 0 I, .cell 3 0 .bool, .cell 0 0 I, .cell 34 0 I, .cell 34 1 I, .cell 34 2 (.arr ST), .cell 34 3 L] else []
def hintJ (f : FuncId) : Hint := if Nat.beq f 999999997 then ⟨fun _ => [], fun _ => .split, fun _ => .split, fun _ => 1⟩ else
  ⟨lasJ f, fun r => bif Nat.beq f 71 && Nat.beq r 15 then .all else .split, fun _ => .split, fun r => bif Nat.beq f 71 && Nat.beq r 13 then 3 else 0⟩
noncomputable def FJ (n : Nat) : Ctx := mkctxH bs [] [] [(86, parts2I)] [(71, joinH n)] hintJ
theorem joinW_nf (n : Nat) (x : Sp) (c : Int) (b : Bool) (p : Int) : fnwpH (FJ n) 8 71 (join1H n) x (c, b, p) = (((!decide (c = p)) = true → (b = true → (decide ((↑(Rose.subs
  x).length : Int) = (0 : Int)) = true → isI64 (c + (1 : Int)) ∧ Rose.node (((Rose.val x).fst.fst, (Rose.val x).fst.snd.fst, ()), (Rose.val x).snd.fst, ()) (Rose.subs x) = joinT1 n
  p x c ∧ ((p = p ∧ True) ∧ True ∧ ((True ∧ True) ∧ True) ∧ (true = (b || foundT1 n p x c) ∧ True) ∧ ((True ∧ True ∧ True) ∧ True) ∧ True ∧ (c + (1 : Int) = c + leaves1 n x ∧ True)
  ∧ ((True ∧ True ∧ True ∧ True) ∧ True) ∧ True) ∧ True) ∧ (decide ((↑(Rose.subs x).length : Int) = (0 : Int)) = false → (decide ((0 : Int) < (↑(Rose.subs x).length : Int)) = true
  → ((0 : Int) ≤ (0 : Int) ∧ (0 : Int) < (↑(Rose.subs x).length : Int)) ∧ (True ∧ True ∧ True ∧ True) ∧ ((p = p ∧ True) ∧ True ∧ ((True ∧ True) ∧ True) ∧ (true = true ∧ True) ∧
  ((True ∧ True ∧ True) ∧ True) ∧ True ∧ (c = c ∧ True) ∧ ((True ∧ True ∧ True ∧ True) ∧ True) ∧ True) ∧ preW n (nS (gS x 0)) c ∧ roomP (FJ n) (25 : Nat) [joinT n p (nS (gS x 0))
  c].length ∧ isI64 (1 : Int) ∧ (decide ((1 : Int) < (↑(Rose.subs x).length : Int)) = true → ((0 : Int) ≤ (1 : Int) ∧ (1 : Int) < (↑(Rose.subs x).length : Int)) ∧ (True ∧ True ∧
  True ∧ True) ∧ ((p = p ∧ True) ∧ True ∧ ((True ∧ True) ∧ True) ∧ ((true || foundT n p (nS (gS x 0)) c) = (true || foundT n p (nS (gS x 0)) c) ∧ True) ∧ ((True ∧ True ∧ True) ∧
  True) ∧ True ∧ (c + leavesN n (nS (gS x 0)) = c + leavesN n (nS (gS x 0)) ∧ True) ∧ ((True ∧ True ∧ True ∧ True) ∧ True) ∧ True) ∧ preW n (nS (gS x 1)) (c + leavesN n (nS (gS x
  0))) ∧ roomP (FJ n) (25 : Nat) ([joinT n p (nS (gS x 0)) c].length + [joinT n p (nS (gS x 1)) (c + leavesN n (nS (gS x 0)))].length) ∧ isI64 (2 : Int) ∧ (decide ((2 : Int) <
  (↑(Rose.subs x).length : Int)) = true → ((0 : Int) ≤ (2 : Int) ∧ (2 : Int) < (↑(Rose.subs x).length : Int)) ∧ (True ∧ True ∧ True ∧ True) ∧ ((p = p ∧ True) ∧ True ∧ ((True ∧
  True) ∧ True) ∧ ((true || foundT n p (nS (gS x 0)) c || foundT n p (nS (gS x 1)) (c + leavesN n (nS (gS x 0)))) = (true || foundT n p (nS (gS x 0)) c || foundT n p (nS (gS x 1))
  (c + leavesN n (nS (gS x 0)))) ∧ True) ∧ ((True ∧ True ∧ True) ∧ True) ∧ True ∧ (c + leavesN n (nS (gS x 0)) + leavesN n (nS (gS x 1)) = c + leavesN n (nS (gS x 0)) + leavesN n
  (nS (gS x 1)) ∧ True) ∧ ((True ∧ True ∧ True ∧ True) ∧ True) ∧ True) ∧ preW n (nS (gS x 2)) (c + leavesN n (nS (gS x 0)) + leavesN n (nS (gS x 1))) ∧ roomP (FJ n) (25 : Nat)
  (([joinT n p (nS (gS x 0)) c] ++ [joinT n p (nS (gS x 1)) (c + leavesN n (nS (gS x 0)))]).length + [joinT n p (nS (gS x 2)) (c + leavesN n (nS (gS x 0)) + leavesN n (nS (gS x
  1)))].length) ∧ isI64 (3 : Int) ∧ False) ∧ (decide ((2 : Int) < (↑(Rose.subs x).length : Int)) = false → Rose.node (((Rose.val x).fst.fst, (Rose.val x).fst.snd.fst, ()),
  (Rose.val x).snd.fst, ()) ([joinT n p (nS (gS x 0)) c] ++ [joinT n p (nS (gS x 1)) (c + leavesN n (nS (gS x 0)))]) = joinT1 n p x c ∧ ((p = p ∧ True) ∧ True ∧ ((True ∧ True) ∧
  True) ∧ ((true || foundT n p (nS (gS x 0)) c || foundT n p (nS (gS x 1)) (c + leavesN n (nS (gS x 0)))) = (b || foundT1 n p x c) ∧ True) ∧ ((True ∧ True ∧ True) ∧ True) ∧ True ∧
  (c + leavesN n (nS (gS x 0)) + leavesN n (nS (gS x 1)) = c + leaves1 n x ∧ True) ∧ ((True ∧ True ∧ True ∧ True) ∧ True) ∧ True) ∧ True)) ∧ (decide ((1 : Int) < (↑(Rose.subs
  x).length : Int)) = false → Rose.node (((Rose.val x).fst.fst, (Rose.val x).fst.snd.fst, ()), (Rose.val x).snd.fst, ()) [joinT n p (nS (gS x 0)) c] = joinT1 n p x c ∧ ((p = p ∧
  True) ∧ True ∧ ((True ∧ True) ∧ True) ∧ ((true || foundT n p (nS (gS x 0)) c) = (b || foundT1 n p x c) ∧ True) ∧ ((True ∧ True ∧ True) ∧ True) ∧ True ∧ (c + leavesN n (nS (gS x
  0)) = c + leaves1 n x ∧ True) ∧ ((True ∧ True ∧ True ∧ True) ∧ True) ∧ True) ∧ True)) ∧ (decide ((0 : Int) < (↑(Rose.subs x).length : Int)) = false → Rose.node (((Rose.val
  x).fst.fst, (Rose.val x).fst.snd.fst, ()), (Rose.val x).snd.fst, ()) [] = joinT1 n p x c ∧ ((p = p ∧ True) ∧ True ∧ ((True ∧ True) ∧ True) ∧ (true = (b || foundT1 n p x c) ∧
  True) ∧ ((True ∧ True ∧ True) ∧ True) ∧ True ∧ (c = c + leaves1 n x ∧ True) ∧ ((True ∧ True ∧ True ∧ True) ∧ True) ∧ True) ∧ True))) ∧ (b = false → (decide ((↑(Rose.subs
  x).length : Int) = (0 : Int)) = true → isI64 (c + (1 : Int)) ∧ Rose.node (((Rose.val x).fst.fst, (Rose.val x).fst.snd.fst, ()), (Rose.val x).snd.fst, ()) (Rose.subs x) = joinT1 n
  p x c ∧ ((p = p ∧ True) ∧ True ∧ ((True ∧ True) ∧ True) ∧ (false = (b || foundT1 n p x c) ∧ True) ∧ ((True ∧ True ∧ True) ∧ True) ∧ True ∧ (c + (1 : Int) = c + leaves1 n x ∧
  True) ∧ ((True ∧ True ∧ True ∧ True) ∧ True) ∧ True) ∧ True) ∧ (decide ((↑(Rose.subs x).length : Int) = (0 : Int)) = false → (decide ((0 : Int) < (↑(Rose.subs x).length : Int)) =
  true → ((0 : Int) ≤ (0 : Int) ∧ (0 : Int) < (↑(Rose.subs x).length : Int)) ∧ (True ∧ True ∧ True ∧ True) ∧ ((p = p ∧ True) ∧ True ∧ ((True ∧ True) ∧ True) ∧ (false = false ∧
  True) ∧ ((True ∧ True ∧ True) ∧ True) ∧ True ∧ (c = c ∧ True) ∧ ((True ∧ True ∧ True ∧ True) ∧ True) ∧ True) ∧ preW n (nS (gS x 0)) c ∧ roomP (FJ n) (25 : Nat) [joinT n p (nS (gS
  x 0)) c].length ∧ isI64 (1 : Int) ∧ (decide ((1 : Int) < (↑(Rose.subs x).length : Int)) = true → ((0 : Int) ≤ (1 : Int) ∧ (1 : Int) < (↑(Rose.subs x).length : Int)) ∧ (True ∧
  True ∧ True ∧ True) ∧ ((p = p ∧ True) ∧ True ∧ ((True ∧ True) ∧ True) ∧ ((false || foundT n p (nS (gS x 0)) c) = (false || foundT n p (nS (gS x 0)) c) ∧ True) ∧ ((True ∧ True ∧
  True) ∧ True) ∧ True ∧ (c + leavesN n (nS (gS x 0)) = c + leavesN n (nS (gS x 0)) ∧ True) ∧ ((True ∧ True ∧ True ∧ True) ∧ True) ∧ True) ∧ preW n (nS (gS x 1)) (c + leavesN n (nS
  (gS x 0))) ∧ roomP (FJ n) (25 : Nat) ([joinT n p (nS (gS x 0)) c].length + [joinT n p (nS (gS x 1)) (c + leavesN n (nS (gS x 0)))].length) ∧ isI64 (2 : Int) ∧ (decide ((2 : Int)
  < (↑(Rose.subs x).length : Int)) = true → ((0 : Int) ≤ (2 : Int) ∧ (2 : Int) < (↑(Rose.subs x).length : Int)) ∧ (True ∧ True ∧ True ∧ True) ∧ ((p = p ∧ True) ∧ True ∧ ((True ∧
  True) ∧ True) ∧ ((false || foundT n p (nS (gS x 0)) c || foundT n p (nS (gS x 1)) (c + leavesN n (nS (gS x 0)))) = (false || foundT n p (nS (gS x 0)) c || foundT n p (nS (gS x
  1)) (c + leavesN n (nS (gS x 0)))) ∧ True) ∧ ((True ∧ True ∧ True) ∧ True) ∧ True ∧ (c + leavesN n (nS (gS x 0)) + leavesN n (nS (gS x 1)) = c + leavesN n (nS (gS x 0)) + leavesN
  n (nS (gS x 1)) ∧ True) ∧ ((True ∧ True ∧ True ∧ True) ∧ True) ∧ True) ∧ preW n (nS (gS x 2)) (c + leavesN n (nS (gS x 0)) + leavesN n (nS (gS x 1))) ∧ roomP (FJ n) (25 : Nat)
  (([joinT n p (nS (gS x 0)) c] ++ [joinT n p (nS (gS x 1)) (c + leavesN n (nS (gS x 0)))]).length + [joinT n p (nS (gS x 2)) (c + leavesN n (nS (gS x 0)) + leavesN n (nS (gS x
  1)))].length) ∧ isI64 (3 : Int) ∧ False) ∧ (decide ((2 : Int) < (↑(Rose.subs x).length : Int)) = false → Rose.node (((Rose.val x).fst.fst, (Rose.val x).fst.snd.fst, ()),
  (Rose.val x).snd.fst, ()) ([joinT n p (nS (gS x 0)) c] ++ [joinT n p (nS (gS x 1)) (c + leavesN n (nS (gS x 0)))]) = joinT1 n p x c ∧ ((p = p ∧ True) ∧ True ∧ ((True ∧ True) ∧
  True) ∧ ((false || foundT n p (nS (gS x 0)) c || foundT n p (nS (gS x 1)) (c + leavesN n (nS (gS x 0)))) = (b || foundT1 n p x c) ∧ True) ∧ ((True ∧ True ∧ True) ∧ True) ∧ True ∧
  (c + leavesN n (nS (gS x 0)) + leavesN n (nS (gS x 1)) = c + leaves1 n x ∧ True) ∧ ((True ∧ True ∧ True ∧ True) ∧ True) ∧ True) ∧ True)) ∧ (decide ((1 : Int) < (↑(Rose.subs
  x).length : Int)) = false → Rose.node (((Rose.val x).fst.fst, (Rose.val x).fst.snd.fst, ()), (Rose.val x).snd.fst, ()) [joinT n p (nS (gS x 0)) c] = joinT1 n p x c ∧ ((p = p ∧
  True) ∧ True ∧ ((True ∧ True) ∧ True) ∧ ((false || foundT n p (nS (gS x 0)) c) = (b || foundT1 n p x c) ∧ True) ∧ ((True ∧ True ∧ True) ∧ True) ∧ True ∧ (c + leavesN n (nS (gS x
  0)) = c + leaves1 n x ∧ True) ∧ ((True ∧ True ∧ True ∧ True) ∧ True) ∧ True) ∧ True)) ∧ (decide ((0 : Int) < (↑(Rose.subs x).length : Int)) = false → Rose.node (((Rose.val
  x).fst.fst, (Rose.val x).fst.snd.fst, ()), (Rose.val x).snd.fst, ()) [] = joinT1 n p x c ∧ ((p = p ∧ True) ∧ True ∧ ((True ∧ True) ∧ True) ∧ (false = (b || foundT1 n p x c) ∧
  True) ∧ ((True ∧ True ∧ True) ∧ True) ∧ True ∧ (c = c + leaves1 n x ∧ True) ∧ ((True ∧ True ∧ True ∧ True) ∧ True) ∧ True) ∧ True)))) ∧ ((!decide (c = p)) = false → (decide
  ((↑(Rose.subs x).length : Int) = (0 : Int)) = true → (b = true → (decide ((↑(Rose.subs x).length : Int) = (0 : Int)) = true → isI64 (c + (1 : Int)) ∧ Rose.node (((Rose.val
  x).fst.fst, (Rose.val x).fst.snd.fst, ()), (Rose.val x).snd.fst, ()) (Rose.subs x) = joinT1 n p x c ∧ ((p = p ∧ True) ∧ True ∧ ((True ∧ True) ∧ True) ∧ (true = (b || foundT1 n p
  x c) ∧ True) ∧ ((True ∧ True ∧ True) ∧ True) ∧ True ∧ (c + (1 : Int) = c + leaves1 n x ∧ True) ∧ ((True ∧ True ∧ True ∧ True) ∧ True) ∧ True) ∧ True) ∧ (decide ((↑(Rose.subs
  x).length : Int) = (0 : Int)) = false → (decide ((0 : Int) < (↑(Rose.subs x).length : Int)) = true → ((0 : Int) ≤ (0 : Int) ∧ (0 : Int) < (↑(Rose.subs x).length : Int)) ∧ (True ∧
  True ∧ True ∧ True) ∧ ((p = p ∧ True) ∧ True ∧ ((True ∧ True) ∧ True) ∧ (true = true ∧ True) ∧ ((True ∧ True ∧ True) ∧ True) ∧ True ∧ (c = c ∧ True) ∧ ((True ∧ True ∧ True ∧
  True) ∧ True) ∧ True) ∧ preW n (nS (gS x 0)) c ∧ roomP (FJ n) (25 : Nat) [joinT n p (nS (gS x 0)) c].length ∧ isI64 (1 : Int) ∧ (decide ((1 : Int) < (↑(Rose.subs x).length :
  Int)) = true → ((0 : Int) ≤ (1 : Int) ∧ (1 : Int) < (↑(Rose.subs x).length : Int)) ∧ (True ∧ True ∧ True ∧ True) ∧ ((p = p ∧ True) ∧ True ∧ ((True ∧ True) ∧ True) ∧ ((true ||
  foundT n p (nS (gS x 0)) c) = (true || foundT n p (nS (gS x 0)) c) ∧ True) ∧ ((True ∧ True ∧ True) ∧ True) ∧ True ∧ (c + leavesN n (nS (gS x 0)) = c + leavesN n (nS (gS x 0)) ∧
  True) ∧ ((True ∧ True ∧ True ∧ True) ∧ True) ∧ True) ∧ preW n (nS (gS x 1)) (c + leavesN n (nS (gS x 0))) ∧ roomP (FJ n) (25 : Nat) ([joinT n p (nS (gS x 0)) c].length + [joinT n
  p (nS (gS x 1)) (c + leavesN n (nS (gS x 0)))].length) ∧ isI64 (2 : Int) ∧ (decide ((2 : Int) < (↑(Rose.subs x).length : Int)) = true → ((0 : Int) ≤ (2 : Int) ∧ (2 : Int) <
  (↑(Rose.subs x).length : Int)) ∧ (True ∧ True ∧ True ∧ True) ∧ ((p = p ∧ True) ∧ True ∧ ((True ∧ True) ∧ True) ∧ ((true || foundT n p (nS (gS x 0)) c || foundT n p (nS (gS x 1))
  (c + leavesN n (nS (gS x 0)))) = (true || foundT n p (nS (gS x 0)) c || foundT n p (nS (gS x 1)) (c + leavesN n (nS (gS x 0)))) ∧ True) ∧ ((True ∧ True ∧ True) ∧ True) ∧ True ∧
  (c + leavesN n (nS (gS x 0)) + leavesN n (nS (gS x 1)) = c + leavesN n (nS (gS x 0)) + leavesN n (nS (gS x 1)) ∧ True) ∧ ((True ∧ True ∧ True ∧ True) ∧ True) ∧ True) ∧ preW n (nS
  (gS x 2)) (c + leavesN n (nS (gS x 0)) + leavesN n (nS (gS x 1))) ∧ roomP (FJ n) (25 : Nat) (([joinT n p (nS (gS x 0)) c] ++ [joinT n p (nS (gS x 1)) (c + leavesN n (nS (gS x
  0)))]).length + [joinT n p (nS (gS x 2)) (c + leavesN n (nS (gS x 0)) + leavesN n (nS (gS x 1)))].length) ∧ isI64 (3 : Int) ∧ False) ∧ (decide ((2 : Int) < (↑(Rose.subs x).length
  : Int)) = false → Rose.node (((Rose.val x).fst.fst, (Rose.val x).fst.snd.fst, ()), (Rose.val x).snd.fst, ()) ([joinT n p (nS (gS x 0)) c] ++ [joinT n p (nS (gS x 1)) (c + leavesN
  n (nS (gS x 0)))]) = joinT1 n p x c ∧ ((p = p ∧ True) ∧ True ∧ ((True ∧ True) ∧ True) ∧ ((true || foundT n p (nS (gS x 0)) c || foundT n p (nS (gS x 1)) (c + leavesN n (nS (gS x
  0)))) = (b || foundT1 n p x c) ∧ True) ∧ ((True ∧ True ∧ True) ∧ True) ∧ True ∧ (c + leavesN n (nS (gS x 0)) + leavesN n (nS (gS x 1)) = c + leaves1 n x ∧ True) ∧ ((True ∧ True ∧
  True ∧ True) ∧ True) ∧ True) ∧ True)) ∧ (decide ((1 : Int) < (↑(Rose.subs x).length : Int)) = false → Rose.node (((Rose.val x).fst.fst, (Rose.val x).fst.snd.fst, ()), (Rose.val
  x).snd.fst, ()) [joinT n p (nS (gS x 0)) c] = joinT1 n p x c ∧ ((p = p ∧ True) ∧ True ∧ ((True ∧ True) ∧ True) ∧ ((true || foundT n p (nS (gS x 0)) c) = (b || foundT1 n p x c) ∧
  True) ∧ ((True ∧ True ∧ True) ∧ True) ∧ True ∧ (c + leavesN n (nS (gS x 0)) = c + leaves1 n x ∧ True) ∧ ((True ∧ True ∧ True ∧ True) ∧ True) ∧ True) ∧ True)) ∧ (decide ((0 : Int)
  < (↑(Rose.subs x).length : Int)) = false → Rose.node (((Rose.val x).fst.fst, (Rose.val x).fst.snd.fst, ()), (Rose.val x).snd.fst, ()) [] = joinT1 n p x c ∧ ((p = p ∧ True) ∧ True
  ∧ ((True ∧ True) ∧ True) ∧ (true = (b || foundT1 n p x c) ∧ True) ∧ ((True ∧ True ∧ True) ∧ True) ∧ True ∧ (c = c + leaves1 n x ∧ True) ∧ ((True ∧ True ∧ True ∧ True) ∧ True) ∧
  True) ∧ True))) ∧ (b = false → (decide ((↑(Rose.subs x).length : Int) = (0 : Int)) = true → isI64 (c + (1 : Int)) ∧ Rose.node (((Rose.val x).fst.fst, (Rose.val x).fst.snd.fst,
  ()), (Rose.val x).snd.fst, ()) (Rose.subs x) = joinT1 n p x c ∧ ((p = p ∧ True) ∧ True ∧ ((True ∧ True) ∧ True) ∧ (false = (b || foundT1 n p x c) ∧ True) ∧ ((True ∧ True ∧ True)
  ∧ True) ∧ True ∧ (c + (1 : Int) = c + leaves1 n x ∧ True) ∧ ((True ∧ True ∧ True ∧ True) ∧ True) ∧ True) ∧ True) ∧ (decide ((↑(Rose.subs x).length : Int) = (0 : Int)) = false →
  (decide ((0 : Int) < (↑(Rose.subs x).length : Int)) = true → ((0 : Int) ≤ (0 : Int) ∧ (0 : Int) < (↑(Rose.subs x).length : Int)) ∧ (True ∧ True ∧ True ∧ True) ∧ ((p = p ∧ True) ∧
  True ∧ ((True ∧ True) ∧ True) ∧ (false = false ∧ True) ∧ ((True ∧ True ∧ True) ∧ True) ∧ True ∧ (c = c ∧ True) ∧ ((True ∧ True ∧ True ∧ True) ∧ True) ∧ True) ∧ preW n (nS (gS x
  0)) c ∧ roomP (FJ n) (25 : Nat) [joinT n p (nS (gS x 0)) c].length ∧ isI64 (1 : Int) ∧ (decide ((1 : Int) < (↑(Rose.subs x).length : Int)) = true → ((0 : Int) ≤ (1 : Int) ∧ (1 :
  Int) < (↑(Rose.subs x).length : Int)) ∧ (True ∧ True ∧ True ∧ True) ∧ ((p = p ∧ True) ∧ True ∧ ((True ∧ True) ∧ True) ∧ ((false || foundT n p (nS (gS x 0)) c) = (false || foundT
  n p (nS (gS x 0)) c) ∧ True) ∧ ((True ∧ True ∧ True) ∧ True) ∧ True ∧ (c + leavesN n (nS (gS x 0)) = c + leavesN n (nS (gS x 0)) ∧ True) ∧ ((True ∧ True ∧ True ∧ True) ∧ True) ∧
  True) ∧ preW n (nS (gS x 1)) (c + leavesN n (nS (gS x 0))) ∧ roomP (FJ n) (25 : Nat) ([joinT n p (nS (gS x 0)) c].length + [joinT n p (nS (gS x 1)) (c + leavesN n (nS (gS x
  0)))].length) ∧ isI64 (2 : Int) ∧ (decide ((2 : Int) < (↑(Rose.subs x).length : Int)) = true → ((0 : Int) ≤ (2 : Int) ∧ (2 : Int) < (↑(Rose.subs x).length : Int)) ∧ (True ∧ True
  ∧ True ∧ True) ∧ ((p = p ∧ True) ∧ True ∧ ((True ∧ True) ∧ True) ∧ ((false || foundT n p (nS (gS x 0)) c || foundT n p (nS (gS x 1)) (c + leavesN n (nS (gS x 0)))) = (false ||
  foundT n p (nS (gS x 0)) c || foundT n p (nS (gS x 1)) (c + leavesN n (nS (gS x 0)))) ∧ True) ∧ ((True ∧ True ∧ True) ∧ True) ∧ True ∧ (c + leavesN n (nS (gS x 0)) + leavesN n
  (nS (gS x 1)) = c + leavesN n (nS (gS x 0)) + leavesN n (nS (gS x 1)) ∧ True) ∧ ((True ∧ True ∧ True ∧ True) ∧ True) ∧ True) ∧ preW n (nS (gS x 2)) (c + leavesN n (nS (gS x 0)) +
  leavesN n (nS (gS x 1))) ∧ roomP (FJ n) (25 : Nat) (([joinT n p (nS (gS x 0)) c] ++ [joinT n p (nS (gS x 1)) (c + leavesN n (nS (gS x 0)))]).length + [joinT n p (nS (gS x 2)) (c
  + leavesN n (nS (gS x 0)) + leavesN n (nS (gS x 1)))].length) ∧ isI64 (3 : Int) ∧ False) ∧ (decide ((2 : Int) < (↑(Rose.subs x).length : Int)) = false → Rose.node (((Rose.val
  x).fst.fst, (Rose.val x).fst.snd.fst, ()), (Rose.val x).snd.fst, ()) ([joinT n p (nS (gS x 0)) c] ++ [joinT n p (nS (gS x 1)) (c + leavesN n (nS (gS x 0)))]) = joinT1 n p x c ∧
  ((p = p ∧ True) ∧ True ∧ ((True ∧ True) ∧ True) ∧ ((false || foundT n p (nS (gS x 0)) c || foundT n p (nS (gS x 1)) (c + leavesN n (nS (gS x 0)))) = (b || foundT1 n p x c) ∧
  True) ∧ ((True ∧ True ∧ True) ∧ True) ∧ True ∧ (c + leavesN n (nS (gS x 0)) + leavesN n (nS (gS x 1)) = c + leaves1 n x ∧ True) ∧ ((True ∧ True ∧ True ∧ True) ∧ True) ∧ True) ∧
  True)) ∧ (decide ((1 : Int) < (↑(Rose.subs x).length : Int)) = false → Rose.node (((Rose.val x).fst.fst, (Rose.val x).fst.snd.fst, ()), (Rose.val x).snd.fst, ()) [joinT n p (nS
  (gS x 0)) c] = joinT1 n p x c ∧ ((p = p ∧ True) ∧ True ∧ ((True ∧ True) ∧ True) ∧ ((false || foundT n p (nS (gS x 0)) c) = (b || foundT1 n p x c) ∧ True) ∧ ((True ∧ True ∧ True)
  ∧ True) ∧ True ∧ (c + leavesN n (nS (gS x 0)) = c + leaves1 n x ∧ True) ∧ ((True ∧ True ∧ True ∧ True) ∧ True) ∧ True) ∧ True)) ∧ (decide ((0 : Int) < (↑(Rose.subs x).length :
  Int)) = false → Rose.node (((Rose.val x).fst.fst, (Rose.val x).fst.snd.fst, ()), (Rose.val x).snd.fst, ()) [] = joinT1 n p x c ∧ ((p = p ∧ True) ∧ True ∧ ((True ∧ True) ∧ True) ∧
  (false = (b || foundT1 n p x c) ∧ True) ∧ ((True ∧ True ∧ True) ∧ True) ∧ True ∧ (c = c + leaves1 n x ∧ True) ∧ ((True ∧ True ∧ True ∧ True) ∧ True) ∧ True) ∧ True)))) ∧ (decide
  ((↑(Rose.subs x).length : Int) = (0 : Int)) = false → ((0 : Int) ≤ (0 : Int) ∧ (0 : Int) < (↑(Rose.subs x).length : Int)) ∧ ((0 : Int) ≤ (1 : Int) ∧ (1 : Int) < (↑(Rose.subs
  x).length : Int)) ∧ isI64 ((↑(gS x 0).subs.length : Int) + (↑(gS x 1).subs.length : Int)) ∧ (decide ((0 : Int) < (↑(gS x 0).subs.length : Int) + (↑(gS x 1).subs.length : Int)) =
  true → (b = true → (decide ((↑(Rose.subs x).length : Int) = (0 : Int)) = true → isI64 (c + (1 : Int)) ∧ Rose.node (((Rose.val x).fst.fst, (Rose.val x).fst.snd.fst, ()), (Rose.val
  x).snd.fst, ()) (Rose.subs x) = joinT1 n p x c ∧ ((p = p ∧ True) ∧ True ∧ ((True ∧ True) ∧ True) ∧ (true = (b || foundT1 n p x c) ∧ True) ∧ ((True ∧ True ∧ True) ∧ True) ∧ True ∧
  (c + (1 : Int) = c + leaves1 n x ∧ True) ∧ ((True ∧ True ∧ True ∧ True) ∧ True) ∧ True) ∧ True) ∧ (decide ((↑(Rose.subs x).length : Int) = (0 : Int)) = false → (decide ((0 : Int)
  < (↑(Rose.subs x).length : Int)) = true → ((0 : Int) ≤ (0 : Int) ∧ (0 : Int) < (↑(Rose.subs x).length : Int)) ∧ (True ∧ True ∧ True ∧ True) ∧ ((p = p ∧ True) ∧ True ∧ ((True ∧
  True) ∧ True) ∧ (true = true ∧ True) ∧ ((True ∧ True ∧ True) ∧ True) ∧ True ∧ (c = c ∧ True) ∧ ((True ∧ True ∧ True ∧ True) ∧ True) ∧ True) ∧ preW n (nS (gS x 0)) c ∧ roomP (FJ
  n) (25 : Nat) [joinT n p (nS (gS x 0)) c].length ∧ isI64 (1 : Int) ∧ (decide ((1 : Int) < (↑(Rose.subs x).length : Int)) = true → ((0 : Int) ≤ (1 : Int) ∧ (1 : Int) <
  (↑(Rose.subs x).length : Int)) ∧ (True ∧ True ∧ True ∧ True) ∧ ((p = p ∧ True) ∧ True ∧ ((True ∧ True) ∧ True) ∧ ((true || foundT n p (nS (gS x 0)) c) = (true || foundT n p (nS
  (gS x 0)) c) ∧ True) ∧ ((True ∧ True ∧ True) ∧ True) ∧ True ∧ (c + leavesN n (nS (gS x 0)) = c + leavesN n (nS (gS x 0)) ∧ True) ∧ ((True ∧ True ∧ True ∧ True) ∧ True) ∧ True) ∧
  preW n (nS (gS x 1)) (c + leavesN n (nS (gS x 0))) ∧ roomP (FJ n) (25 : Nat) ([joinT n p (nS (gS x 0)) c].length + [joinT n p (nS (gS x 1)) (c + leavesN n (nS (gS x 0)))].length)
  ∧ isI64 (2 : Int) ∧ (decide ((2 : Int) < (↑(Rose.subs x).length : Int)) = true → ((0 : Int) ≤ (2 : Int) ∧ (2 : Int) < (↑(Rose.subs x).length : Int)) ∧ (True ∧ True ∧ True ∧ True)
  ∧ ((p = p ∧ True) ∧ True ∧ ((True ∧ True) ∧ True) ∧ ((true || foundT n p (nS (gS x 0)) c || foundT n p (nS (gS x 1)) (c + leavesN n (nS (gS x 0)))) = (true || foundT n p (nS (gS
  x 0)) c || foundT n p (nS (gS x 1)) (c + leavesN n (nS (gS x 0)))) ∧ True) ∧ ((True ∧ True ∧ True) ∧ True) ∧ True ∧ (c + leavesN n (nS (gS x 0)) + leavesN n (nS (gS x 1)) = c +
  leavesN n (nS (gS x 0)) + leavesN n (nS (gS x 1)) ∧ True) ∧ ((True ∧ True ∧ True ∧ True) ∧ True) ∧ True) ∧ preW n (nS (gS x 2)) (c + leavesN n (nS (gS x 0)) + leavesN n (nS (gS x
  1))) ∧ roomP (FJ n) (25 : Nat) (([joinT n p (nS (gS x 0)) c] ++ [joinT n p (nS (gS x 1)) (c + leavesN n (nS (gS x 0)))]).length + [joinT n p (nS (gS x 2)) (c + leavesN n (nS (gS
  x 0)) + leavesN n (nS (gS x 1)))].length) ∧ isI64 (3 : Int) ∧ False) ∧ (decide ((2 : Int) < (↑(Rose.subs x).length : Int)) = false → Rose.node (((Rose.val x).fst.fst, (Rose.val
  x).fst.snd.fst, ()), (Rose.val x).snd.fst, ()) ([joinT n p (nS (gS x 0)) c] ++ [joinT n p (nS (gS x 1)) (c + leavesN n (nS (gS x 0)))]) = joinT1 n p x c ∧ ((p = p ∧ True) ∧ True
  ∧ ((True ∧ True) ∧ True) ∧ ((true || foundT n p (nS (gS x 0)) c || foundT n p (nS (gS x 1)) (c + leavesN n (nS (gS x 0)))) = (b || foundT1 n p x c) ∧ True) ∧ ((True ∧ True ∧
  True) ∧ True) ∧ True ∧ (c + leavesN n (nS (gS x 0)) + leavesN n (nS (gS x 1)) = c + leaves1 n x ∧ True) ∧ ((True ∧ True ∧ True ∧ True) ∧ True) ∧ True) ∧ True)) ∧ (decide ((1 :
  Int) < (↑(Rose.subs x).length : Int)) = false → Rose.node (((Rose.val x).fst.fst, (Rose.val x).fst.snd.fst, ()), (Rose.val x).snd.fst, ()) [joinT n p (nS (gS x 0)) c] = joinT1 n
  p x c ∧ ((p = p ∧ True) ∧ True ∧ ((True ∧ True) ∧ True) ∧ ((true || foundT n p (nS (gS x 0)) c) = (b || foundT1 n p x c) ∧ True) ∧ ((True ∧ True ∧ True) ∧ True) ∧ True ∧ (c +
  leavesN n (nS (gS x 0)) = c + leaves1 n x ∧ True) ∧ ((True ∧ True ∧ True ∧ True) ∧ True) ∧ True) ∧ True)) ∧ (decide ((0 : Int) < (↑(Rose.subs x).length : Int)) = false →
  Rose.node (((Rose.val x).fst.fst, (Rose.val x).fst.snd.fst, ()), (Rose.val x).snd.fst, ()) [] = joinT1 n p x c ∧ ((p = p ∧ True) ∧ True ∧ ((True ∧ True) ∧ True) ∧ (true = (b ||
  foundT1 n p x c) ∧ True) ∧ ((True ∧ True ∧ True) ∧ True) ∧ True ∧ (c = c + leaves1 n x ∧ True) ∧ ((True ∧ True ∧ True ∧ True) ∧ True) ∧ True) ∧ True))) ∧ (b = false → (decide
  ((↑(Rose.subs x).length : Int) = (0 : Int)) = true → isI64 (c + (1 : Int)) ∧ Rose.node (((Rose.val x).fst.fst, (Rose.val x).fst.snd.fst, ()), (Rose.val x).snd.fst, ()) (Rose.subs
  x) = joinT1 n p x c ∧ ((p = p ∧ True) ∧ True ∧ ((True ∧ True) ∧ True) ∧ (false = (b || foundT1 n p x c) ∧ True) ∧ ((True ∧ True ∧ True) ∧ True) ∧ True ∧ (c + (1 : Int) = c +
  leaves1 n x ∧ True) ∧ ((True ∧ True ∧ True ∧ True) ∧ True) ∧ True) ∧ True) ∧ (decide ((↑(Rose.subs x).length : Int) = (0 : Int)) = false → (decide ((0 : Int) < (↑(Rose.subs
  x).length : Int)) = true → ((0 : Int) ≤ (0 : Int) ∧ (0 : Int) < (↑(Rose.subs x).length : Int)) ∧ (True ∧ True ∧ True ∧ True) ∧ ((p = p ∧ True) ∧ True ∧ ((True ∧ True) ∧ True) ∧
  (false = false ∧ True) ∧ ((True ∧ True ∧ True) ∧ True) ∧ True ∧ (c = c ∧ True) ∧ ((True ∧ True ∧ True ∧ True) ∧ True) ∧ True) ∧ preW n (nS (gS x 0)) c ∧ roomP (FJ n) (25 : Nat)
  [joinT n p (nS (gS x 0)) c].length ∧ isI64 (1 : Int) ∧ (decide ((1 : Int) < (↑(Rose.subs x).length : Int)) = true → ((0 : Int) ≤ (1 : Int) ∧ (1 : Int) < (↑(Rose.subs x).length :
  Int)) ∧ (True ∧ True ∧ True ∧ True) ∧ ((p = p ∧ True) ∧ True ∧ ((True ∧ True) ∧ True) ∧ ((false || foundT n p (nS (gS x 0)) c) = (false || foundT n p (nS (gS x 0)) c) ∧ True) ∧
  ((True ∧ True ∧ True) ∧ True) ∧ True ∧ (c + leavesN n (nS (gS x 0)) = c + leavesN n (nS (gS x 0)) ∧ True) ∧ ((True ∧ True ∧ True ∧ True) ∧ True) ∧ True) ∧ preW n (nS (gS x 1)) (c
  + leavesN n (nS (gS x 0))) ∧ roomP (FJ n) (25 : Nat) ([joinT n p (nS (gS x 0)) c].length + [joinT n p (nS (gS x 1)) (c + leavesN n (nS (gS x 0)))].length) ∧ isI64 (2 : Int) ∧
  (decide ((2 : Int) < (↑(Rose.subs x).length : Int)) = true → ((0 : Int) ≤ (2 : Int) ∧ (2 : Int) < (↑(Rose.subs x).length : Int)) ∧ (True ∧ True ∧ True ∧ True) ∧ ((p = p ∧ True) ∧
  True ∧ ((True ∧ True) ∧ True) ∧ ((false || foundT n p (nS (gS x 0)) c || foundT n p (nS (gS x 1)) (c + leavesN n (nS (gS x 0)))) = (false || foundT n p (nS (gS x 0)) c || foundT
  n p (nS (gS x 1)) (c + leavesN n (nS (gS x 0)))) ∧ True) ∧ ((True ∧ True ∧ True) ∧ True) ∧ True ∧ (c + leavesN n (nS (gS x 0)) + leavesN n (nS (gS x 1)) = c + leavesN n (nS (gS x
  0)) + leavesN n (nS (gS x 1)) ∧ True) ∧ ((True ∧ True ∧ True ∧ True) ∧ True) ∧ True) ∧ preW n (nS (gS x 2)) (c + leavesN n (nS (gS x 0)) + leavesN n (nS (gS x 1))) ∧ roomP (FJ n)
  (25 : Nat) (([joinT n p (nS (gS x 0)) c] ++ [joinT n p (nS (gS x 1)) (c + leavesN n (nS (gS x 0)))]).length + [joinT n p (nS (gS x 2)) (c + leavesN n (nS (gS x 0)) + leavesN n
  (nS (gS x 1)))].length) ∧ isI64 (3 : Int) ∧ False) ∧ (decide ((2 : Int) < (↑(Rose.subs x).length : Int)) = false → Rose.node (((Rose.val x).fst.fst, (Rose.val x).fst.snd.fst,
  ()), (Rose.val x).snd.fst, ()) ([joinT n p (nS (gS x 0)) c] ++ [joinT n p (nS (gS x 1)) (c + leavesN n (nS (gS x 0)))]) = joinT1 n p x c ∧ ((p = p ∧ True) ∧ True ∧ ((True ∧ True)
  ∧ True) ∧ ((false || foundT n p (nS (gS x 0)) c || foundT n p (nS (gS x 1)) (c + leavesN n (nS (gS x 0)))) = (b || foundT1 n p x c) ∧ True) ∧ ((True ∧ True ∧ True) ∧ True) ∧ True
  ∧ (c + leavesN n (nS (gS x 0)) + leavesN n (nS (gS x 1)) = c + leaves1 n x ∧ True) ∧ ((True ∧ True ∧ True ∧ True) ∧ True) ∧ True) ∧ True)) ∧ (decide ((1 : Int) < (↑(Rose.subs
  x).length : Int)) = false → Rose.node (((Rose.val x).fst.fst, (Rose.val x).fst.snd.fst, ()), (Rose.val x).snd.fst, ()) [joinT n p (nS (gS x 0)) c] = joinT1 n p x c ∧ ((p = p ∧
  True) ∧ True ∧ ((True ∧ True) ∧ True) ∧ ((false || foundT n p (nS (gS x 0)) c) = (b || foundT1 n p x c) ∧ True) ∧ ((True ∧ True ∧ True) ∧ True) ∧ True ∧ (c + leavesN n (nS (gS x
  0)) = c + leaves1 n x ∧ True) ∧ ((True ∧ True ∧ True ∧ True) ∧ True) ∧ True) ∧ True)) ∧ (decide ((0 : Int) < (↑(Rose.subs x).length : Int)) = false → Rose.node (((Rose.val
  x).fst.fst, (Rose.val x).fst.snd.fst, ()), (Rose.val x).snd.fst, ()) [] = joinT1 n p x c ∧ ((p = p ∧ True) ∧ True ∧ ((True ∧ True) ∧ True) ∧ (false = (b || foundT1 n p x c) ∧
  True) ∧ ((True ∧ True ∧ True) ∧ True) ∧ True ∧ (c = c + leaves1 n x ∧ True) ∧ ((True ∧ True ∧ True ∧ True) ∧ True) ∧ True) ∧ True)))) ∧ (decide ((0 : Int) < (↑(gS x
  0).subs.length : Int) + (↑(gS x 1).subs.length : Int)) = false → ((0 : Int) ≤ (0 : Int) ∧ (0 : Int) < (↑(Rose.subs x).length : Int)) ∧ (b = true → pre2 x ∧ ∃ (I : List (Rose
  ((I.pair (I.pair Ty.unit)).den × (L.pair Ty.unit).den)) → PUnit → Int × Bool × Int × Int × Int × List (Rose ((I.pair (I.pair Ty.unit)).den × (L.pair Ty.unit).den)) × List Int →
  Prop), I [] () (c, true, p, (gS x 0).val.fst.fst, (gS x 0).val.fst.snd.fst, (gS x 0).subs, (gS x 0).val.snd.fst) ∧ (∀ (xs : List (Rose ((Ytdeleoaeegmhlaa.I.pair
  (Ytdeleoaeegmhlaa.I.pair Ty.unit)).den × (L.pair Ty.unit).den))) (y : Rose ((Ytdeleoaeegmhlaa.I.pair (Ytdeleoaeegmhlaa.I.pair Ty.unit)).den × (L.pair Ty.unit).den)) (rest : List
  (Rose ((Ytdeleoaeegmhlaa.I.pair (Ytdeleoaeegmhlaa.I.pair Ty.unit)).den × (L.pair Ty.unit).den))), items2 x = xs ++ y :: rest → ∀ (own : Nat → Prop) (z : PUnit) (v : Int × Bool ×
  Int × Int × Int × List (Rose ((Ytdeleoaeegmhlaa.I.pair (Ytdeleoaeegmhlaa.I.pair Ty.unit)).den × (L.pair Ty.unit).den)) × List Int), I xs z v → isI64 (v.fst + (1 : Int)) ∧ I (xs
  ++ [y]) () (v.fst + (1 : Int), v.snd.fst, v.snd.snd.fst, v.snd.snd.snd.fst, v.snd.snd.snd.snd.fst, v.snd.snd.snd.snd.snd.fst, v.snd.snd.snd.snd.snd.snd)) ∧ ∀ (own : Nat → Prop)
  (z : PUnit) (v : Int × Bool × Int × Int × Int × List (Rose ((Ytdeleoaeegmhlaa.I.pair (Ytdeleoaeegmhlaa.I.pair Ty.unit)).den × (L.pair Ty.unit).den)) × List Int), I (items2 x) z v
  → Rose.node ((v.snd.snd.snd.fst, v.snd.snd.snd.snd.fst, ()), v.snd.snd.snd.snd.snd.snd, ()) v.snd.snd.snd.snd.snd.fst = joinT1 n p x c ∧ ((v.snd.snd.fst = p ∧ True) ∧ True ∧
  ((True ∧ True) ∧ True) ∧ (v.snd.fst = (b || foundT1 n p x c) ∧ True) ∧ ((True ∧ True ∧ True) ∧ True) ∧ True ∧ (v.fst = c + leaves1 n x ∧ True) ∧ ((True ∧ True ∧ True ∧ True) ∧
  True) ∧ True) ∧ True) ∧ (b = false → pre2 x ∧ ∃ (I : List (Rose ((I.pair (I.pair Ty.unit)).den × (L.pair Ty.unit).den)) → PUnit → Int × Bool × Int × Int × Int × List (Rose
  ((I.pair (I.pair Ty.unit)).den × (L.pair Ty.unit).den)) × List Int → Prop), I [] () (c, true, p, (gS x 0).val.fst.fst, (gS x 0).val.fst.snd.fst, (gS x 0).subs, (gS x
  0).val.snd.fst) ∧ (∀ (xs : List (Rose ((Ytdeleoaeegmhlaa.I.pair (Ytdeleoaeegmhlaa.I.pair Ty.unit)).den × (L.pair Ty.unit).den))) (y : Rose ((Ytdeleoaeegmhlaa.I.pair
  (Ytdeleoaeegmhlaa.I.pair Ty.unit)).den × (L.pair Ty.unit).den)) (rest : List (Rose ((Ytdeleoaeegmhlaa.I.pair (Ytdeleoaeegmhlaa.I.pair Ty.unit)).den × (L.pair Ty.unit).den))),
  items2 x = xs ++ y :: rest → ∀ (own : Nat → Prop) (z : PUnit) (v : Int × Bool × Int × Int × Int × List (Rose ((Ytdeleoaeegmhlaa.I.pair (Ytdeleoaeegmhlaa.I.pair Ty.unit)).den ×
  (L.pair Ty.unit).den)) × List Int), I xs z v → isI64 (v.fst + (1 : Int)) ∧ I (xs ++ [y]) () (v.fst + (1 : Int), v.snd.fst, v.snd.snd.fst, v.snd.snd.snd.fst,
  v.snd.snd.snd.snd.fst, v.snd.snd.snd.snd.snd.fst, v.snd.snd.snd.snd.snd.snd)) ∧ ∀ (own : Nat → Prop) (z : PUnit) (v : Int × Bool × Int × Int × Int × List (Rose
  ((Ytdeleoaeegmhlaa.I.pair (Ytdeleoaeegmhlaa.I.pair Ty.unit)).den × (L.pair Ty.unit).den)) × List Int), I (items2 x) z v → Rose.node ((v.snd.snd.snd.fst, v.snd.snd.snd.snd.fst,
  ()), v.snd.snd.snd.snd.snd.snd, ()) v.snd.snd.snd.snd.snd.fst = joinT1 n p x c ∧ ((v.snd.snd.fst = p ∧ True) ∧ True ∧ ((True ∧ True) ∧ True) ∧ (v.snd.fst = (b || foundT1 n p x c)
  ∧ True) ∧ ((True ∧ True ∧ True) ∧ True) ∧ True ∧ (v.fst = c + leaves1 n x ∧ True) ∧ ((True ∧ True ∧ True ∧ True) ∧ True) ∧ True) ∧ True))))) := by kernel_rfl
end Go.Proofs.Ytdeleoaeegmhlaa
