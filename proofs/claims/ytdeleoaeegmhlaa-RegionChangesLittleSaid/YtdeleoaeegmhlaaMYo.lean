import Derived.Test.YtdeleoaeegmhlaaMYo0
namespace Go.Proofs.Ytdeleoaeegmhlaa
open Go.AM Go.PL
set_option linter.unusedVariables false
def newCSp : FSpec := ⟨[I, L], [DV, I], fun x => x = ((2 : Int), ([1] : List Int)), fun x => (aDv, 0)⟩
def cutCSp : FSpec := ⟨[DV, I, I, I, L], [DV, I], fun x => x = (aDv, (0 : Int), (0 : Int), (0 : Int), ([2] : List Int)) ∨ x = (bDv, (1 : Int), (1 : Int), (10 : Int), ([1, 3] : List Int)), fun x => if (x.2.1 : Int) = 0 then (bDv, 0) else (cDv, 0)⟩
def joinCSp : FSpec := ⟨[DV, I], [DV, I], fun x => x = (cDv, (1 : Int)) ∨ x = (cDv, (0 : Int)), fun x => if (x.2 : Int) = 1 then (dDv, 0) else (cDv, 4)⟩
def allS (f : FuncId) (r : Nat) : Bool :=
  (Nat.beq f 49 && Nat.beq r 6) || (Nat.beq f 71 && Nat.beq r 15) || (Nat.beq f 45 && Nat.beq r 1)
def hintS (f : FuncId) : Hint := ⟨fun _ => [], fun r => bif allS f r then .all else .force, fun _ => .force, fun r => bif (Nat.beq f 71 && Nat.beq r 1) || (Nat.beq f 20 && Nat.beq r 10) then 700 else 200⟩
def tYo : List (FuncId × FSpec) := [(43, goodSp), (42, cutsSp), (33, clnG.data), (11, areasPSp 10)]
noncomputable def bs2 : Base := ⟨Try.prog, tyB, fun t => Nat.beq t 3 || bs.ro t⟩
noncomputable def YS : Ctx := mkctx bs2 tYo [] hintS
theorem new_nf (i : Int) : fnwp YS 38 63 newCSp (2, [1]) = (True ∧ (1 : Nat) ≤ (1000000 : Nat) ∧ (((2 : Int), (1 : Int), Rose.node (((0 : Int), (0 : Int), ()), [(1 : Int)], ()) [],
  ()), (0 : Int)) = (aDv, (0 : Int))) := by kernel_rfl
theorem cut1_nf (i : Int) : fnwp YS 38 17 cutCSp (((2 : Int), (1 : Int), (Rose.node (((0 : Int), (0 : Int), ()), (([1] : List Int), ())) [] : Sp), ()), 0, 0, 0, [2]) = (preA (10 :
  Nat) ((2 : Int), (1 : Int), Rose.node (((0 : Int), (0 : Int), ()), [(1 : Int)], ()) [], ()) ∧ ((0 : Int) ≤ (0 : Int) ∧ (0 : Int) < (↑(1 : Nat) : Int)) ∧ evenB ((areasN (10 : Nat)
  ((2 : Int), (1 : Int), Rose.node (((0 : Int), (0 : Int), ()), [(1 : Int)], ()) [], ())).getD (0 : Nat) (([], [], ()), [], ())).fst ∧ True ∧ isI64 (2 : Int) ∧ (1 : Nat) ≤ (1000000
  : Nat) ∧ isI64 (1 : Int) ∧ (((2 : Int), (2 : Int), Rose.node (((0 : Int), (0 : Int), ()), [], ()) [Rose.node (((0 : Int), (0 : Int), ()), [(1 : Int)], ()) [], Rose.node (((0 :
  Int), (0 : Int), ()), [(2 : Int)], ()) []], ()), (0 : Int)) = (bDv, (0 : Int))) := by kernel_rfl
theorem cut2_nf (i : Int) : fnwp YS 38 17 cutCSp (((2 : Int), (2 : Int), (Rose.node (((0 : Int), (0 : Int), ()), (([] : List Int), ())) [Rose.node (((0 : Int), (0 : Int), ()),
  (([1] : List Int), ())) [], Rose.node (((0 : Int), (0 : Int), ()), (([2] : List Int), ())) []] : Sp), ()), 1, 1, 10, [1, 3]) = (preA (10 : Nat) ((2 : Int), (2 : Int), Rose.node
  (((0 : Int), (0 : Int), ()), [], ()) [Rose.node (((0 : Int), (0 : Int), ()), [(1 : Int)], ()) [], Rose.node (((0 : Int), (0 : Int), ()), [(2 : Int)], ()) []], ()) ∧ ((0 : Int) ≤
  (1 : Int) ∧ (1 : Int) < (↑(2 : Nat) : Int)) ∧ evenB ((areasN (10 : Nat) ((2 : Int), (2 : Int), Rose.node (((0 : Int), (0 : Int), ()), [], ()) [Rose.node (((0 : Int), (0 : Int),
  ()), [(1 : Int)], ()) [], Rose.node (((0 : Int), (0 : Int), ()), [(2 : Int)], ()) []], ())).getD (1 : Nat) (([], [], ()), [], ())).fst ∧ True ∧ isI64 (3 : Int) ∧ ((0 : Int) ≤ (0
  : Int) ∧ (0 : Int) < (↑(2 : Nat) : Int)) ∧ isI64 (1 : Int) ∧ roomP YS (25 : Nat) (1 : Nat) ∧ isI64 (1 : Int) ∧ ((0 : Int) ≤ (1 : Int) ∧ (1 : Int) < (↑(2 : Nat) : Int)) ∧ (2 :
  Nat) ≤ (1000000 : Nat) ∧ isI64 (2 : Int) ∧ roomP YS (25 : Nat) (2 : Nat) ∧ isI64 (2 : Int) ∧ (((2 : Int), (3 : Int), Rose.node (((0 : Int), (0 : Int), ()), [], ()) ([Rose.node
  (((0 : Int), (0 : Int), ()), [(1 : Int)], ()) []] ++ [Rose.node (((1 : Int), (10 : Int), ()), [], ()) [Rose.node (((0 : Int), (0 : Int), ()), [(2 : Int)], ()) [], Rose.node (((0
  : Int), (0 : Int), ()), [(1 : Int), (3 : Int)], ()) []]]), ()), (0 : Int)) = (cDv, (0 : Int))) := by kernel_rfl
theorem join1_nf (i : Int) : fnwp YS 38 20 joinCSp (((2 : Int), (3 : Int), (Rose.node (((0 : Int), (0 : Int), ()), (([] : List Int), ())) [Rose.node (((0 : Int), (0 : Int), ()),
  (([1] : List Int), ())) [], Rose.node (((1 : Int), (10 : Int), ()), (([] : List Int), ())) [Rose.node (((0 : Int), (0 : Int), ()), (([2] : List Int), ())) [], Rose.node (((0 :
  Int), (0 : Int), ()), (([1, 3] : List Int), ())) []]] : Sp), ()), 1) = (isI64 (2 : Int) ∧ preA (10 : Nat) ((2 : Int), (3 : Int), Rose.node (((0 : Int), (0 : Int), ()), [], ())
  [Rose.node (((0 : Int), (0 : Int), ()), [(1 : Int)], ()) [], Rose.node (((1 : Int), (10 : Int), ()), [], ()) [Rose.node (((0 : Int), (0 : Int), ()), [(2 : Int)], ()) [],
  Rose.node (((0 : Int), (0 : Int), ()), [(1 : Int), (3 : Int)], ()) []]], ()) ∧ isI64 (1 : Int) ∧ ((0 : Int) ≤ (0 : Int) ∧ (0 : Int) < (↑(2 : Nat) : Int)) ∧ isI64 (1 : Int) ∧
  roomP YS (25 : Nat) (1 : Nat) ∧ isI64 (1 : Int) ∧ ((0 : Int) ≤ (1 : Int) ∧ (1 : Int) < (↑(2 : Nat) : Int)) ∧ ((0 : Int) ≤ (0 : Int) ∧ (0 : Int) < (↑(2 : Nat) : Int)) ∧ ((0 : Int)
  ≤ (1 : Int) ∧ (1 : Int) < (↑(2 : Nat) : Int)) ∧ isI64 (0 : Int) ∧ ((0 : Int) ≤ (0 : Int) ∧ (0 : Int) < (↑(2 : Nat) : Int)) ∧ ((0 : Int) ≤ (0 : Int) ∧ (0 : Int) < (↑(2 : Nat) :
  Int)) ∧ isI64 (2 : Int) ∧ isI64 (1 : Int) ∧ ((0 : Int) ≤ (1 : Int) ∧ (1 : Int) < (↑(2 : Nat) : Int)) ∧ isI64 (3 : Int) ∧ isI64 (2 : Int) ∧ roomP YS (25 : Nat) (2 : Nat) ∧ isI64
  (2 : Int) ∧ isI64 (4 : Int) ∧ (((2 : Int), (4 : Int), Rose.node (((0 : Int), (0 : Int), ()), [], ()) [Rose.node (((0 : Int), (0 : Int), ()), [(1 : Int)], ()) [], Rose.node (((0 :
  Int), (0 : Int), ()), [(2 : Int)], ()) []], ()), (0 : Int)) = (dDv, (0 : Int))) := by kernel_rfl
theorem join2_nf (i : Int) : fnwp YS 38 20 joinCSp (((2 : Int), (3 : Int), (Rose.node (((0 : Int), (0 : Int), ()), (([] : List Int), ())) [Rose.node (((0 : Int), (0 : Int), ()),
  (([1] : List Int), ())) [], Rose.node (((1 : Int), (10 : Int), ()), (([] : List Int), ())) [Rose.node (((0 : Int), (0 : Int), ()), (([2] : List Int), ())) [], Rose.node (((0 :
  Int), (0 : Int), ()), (([1, 3] : List Int), ())) []]] : Sp), ()), 0) = (isI64 (1 : Int) ∧ preA (10 : Nat) ((2 : Int), (3 : Int), Rose.node (((0 : Int), (0 : Int), ()), [], ())
  [Rose.node (((0 : Int), (0 : Int), ()), [(1 : Int)], ()) [], Rose.node (((1 : Int), (10 : Int), ()), [], ()) [Rose.node (((0 : Int), (0 : Int), ()), [(2 : Int)], ()) [],
  Rose.node (((0 : Int), (0 : Int), ()), [(1 : Int), (3 : Int)], ()) []]], ()) ∧ isI64 (1 : Int) ∧ ((0 : Int) ≤ (0 : Int) ∧ (0 : Int) < (↑(2 : Nat) : Int)) ∧ ((0 : Int) ≤ (1 : Int)
  ∧ (1 : Int) < (↑(2 : Nat) : Int)) ∧ isI64 (2 : Int) ∧ ((0 : Int) ≤ (0 : Int) ∧ (0 : Int) < (↑(2 : Nat) : Int)) ∧ isI64 (1 : Int) ∧ roomP YS (25 : Nat) (1 : Nat) ∧ isI64 (1 : Int)
  ∧ ((0 : Int) ≤ (1 : Int) ∧ (1 : Int) < (↑(2 : Nat) : Int)) ∧ ((0 : Int) ≤ (0 : Int) ∧ (0 : Int) < (↑(2 : Nat) : Int)) ∧ isI64 (2 : Int) ∧ roomP YS (25 : Nat) (1 : Nat) ∧ isI64 (1
  : Int) ∧ ((0 : Int) ≤ (1 : Int) ∧ (1 : Int) < (↑(2 : Nat) : Int)) ∧ isI64 (3 : Int) ∧ roomP YS (25 : Nat) (2 : Nat) ∧ isI64 (2 : Int) ∧ roomP YS (25 : Nat) (2 : Nat) ∧ isI64 (2 :
  Int) ∧ (((2 : Int), (3 : Int), Rose.node (((Rose.node (((0 : Int), (0 : Int), ()), [], ()) [Rose.node (((0 : Int), (0 : Int), ()), [(1 : Int)], ()) [], Rose.node (((1 : Int), (10
  : Int), ()), [], ()) [Rose.node (((0 : Int), (0 : Int), ()), [(2 : Int)], ()) [], Rose.node (((0 : Int), (0 : Int), ()), [(1 : Int), (3 : Int)], ()) []]]).val.fst.fst, (Rose.node
  (((0 : Int), (0 : Int), ()), [], ()) [Rose.node (((0 : Int), (0 : Int), ()), [(1 : Int)], ()) [], Rose.node (((1 : Int), (10 : Int), ()), [], ()) [Rose.node (((0 : Int), (0 :
  Int), ()), [(2 : Int)], ()) [], Rose.node (((0 : Int), (0 : Int), ()), [(1 : Int), (3 : Int)], ()) []]]).val.fst.snd.fst, ()), (Rose.node (((0 : Int), (0 : Int), ()), [], ())
  [Rose.node (((0 : Int), (0 : Int), ()), [(1 : Int)], ()) [], Rose.node (((1 : Int), (10 : Int), ()), [], ()) [Rose.node (((0 : Int), (0 : Int), ()), [(2 : Int)], ()) [],
  Rose.node (((0 : Int), (0 : Int), ()), [(1 : Int), (3 : Int)], ()) []]]).val.snd.fst, ()) (Rose.node (((0 : Int), (0 : Int), ()), [], ()) [Rose.node (((0 : Int), (0 : Int), ()),
  [(1 : Int)], ()) [], Rose.node (((1 : Int), (10 : Int), ()), [], ()) [Rose.node (((0 : Int), (0 : Int), ()), [(2 : Int)], ()) [], Rose.node (((0 : Int), (0 : Int), ()), [(1 :
  Int), (3 : Int)], ()) []]]).subs, ()), (4 : Int)) = (cDv, (4 : Int))) := by kernel_rfl
end Go.Proofs.Ytdeleoaeegmhlaa
