import Derived.Test.YtdeleoaeegmhlaaMFe
namespace Go.PL
open Go.AM
set_option linter.unusedVariables false
def joinRes (n : Nat) (d : Dv) (p : Int) : Dv × Int :=
  if p < 0 ∨ ((areasN n d).length : Int) ≤ p + 1 then (d, 5) else if foundT n p d.2.2.1 0 = false then (d, 4) else if (1073741824 : Int) ≤ d.2.1 then (d, 2) else ((d.1, d.2.1 + 1, joinT n p d.2.2.1 0, ()), 0)
def sameP (n : Nat) (a b : Sp) : Prop := a = b ∧ deepN n a
end Go.PL
namespace Go.Proofs.Ytdeleoaeegmhlaa
open Go.AM Go.PL
set_option linter.unusedVariables false
def joinFSp (n : Nat) : FSpec := ⟨[DV, I], [DV, I], fun x => GoodN n x.1 ∧ (x.2 : Int) ≤ 1000000, fun x => joinRes n x.1 x.2⟩
def hintJc (f : FuncId) : Hint := ⟨fun _ => [], fun r => bif (Nat.beq f 20 && Nat.beq r 1) || (Nat.beq f 49 && Nat.beq r 6) then .all else .split, fun _ => .split, fun _ => 0⟩
noncomputable def FJc (n : Nat) : Ctx := mkctxH bs [(11, areasPSp n)] [] [] [(71, joinH n)] hintJc
theorem join_nf (n : Nat) (d : Dv) (p : Int) : fnwp (FJc n) 8 20 (joinFSp n) (d, p) = (((decide (p < (0 : Int)) = true → ((d.fst, d.snd.fst, Rose.node ((d.snd.snd.fst.val.fst.fst,
  d.snd.snd.fst.val.fst.snd.fst, ()), d.snd.snd.fst.val.snd.fst, ()) d.snd.snd.fst.subs, ()), (5 : Int)) = joinRes n d p ∧ ((d.fst, d.snd.fst, Rose.node
  ((d.snd.snd.fst.val.fst.fst, d.snd.snd.fst.val.fst.snd.fst, ()), d.snd.snd.fst.val.snd.fst, ()) d.snd.snd.fst.subs, ()), (5 : Int)) = joinRes n d p ∧ ((d.fst, d.snd.fst,
  Rose.node ((d.snd.snd.fst.val.fst.fst, d.snd.snd.fst.val.fst.snd.fst, ()), d.snd.snd.fst.val.snd.fst, ()) d.snd.snd.fst.subs, ()), (5 : Int)) = joinRes n d p ∧ ((d.fst,
  d.snd.fst, Rose.node ((d.snd.snd.fst.val.fst.fst, d.snd.snd.fst.val.fst.snd.fst, ()), d.snd.snd.fst.val.snd.fst, ()) d.snd.snd.fst.subs, ()), (5 : Int)) = joinRes n d p) ∧
  (decide (p < (0 : Int)) = false → (isI64 (p + (1 : Int)) ∧ preA n d ∧ (decide ((↑(areasN n d).length : Int) ≤ p + (1 : Int)) = true → ((d.fst, d.snd.fst, Rose.node
  ((d.snd.snd.fst.val.fst.fst, d.snd.snd.fst.val.fst.snd.fst, ()), d.snd.snd.fst.val.snd.fst, ()) d.snd.snd.fst.subs, ()), (5 : Int)) = joinRes n d p) ∧ (decide ((↑(areasN n
  d).length : Int) ≤ p + (1 : Int)) = false → (decide ((1073741824 : Int) ≤ (0 : Int)) = true → ((d.fst, d.snd.fst, Rose.node ((d.snd.snd.fst.val.fst.fst,
  d.snd.snd.fst.val.fst.snd.fst, ()), d.snd.snd.fst.val.snd.fst, ()) d.snd.snd.fst.subs, ()), (4 : Int)) = joinRes n d p) ∧ (decide ((1073741824 : Int) ≤ (0 : Int)) = false → isI64
  ((0 : Int) + (1 : Int)) ∧ (True ∧ True ∧ True ∧ True) ∧ ((p = p ∧ True) ∧ True ∧ ((True ∧ True) ∧ True) ∧ (false = false ∧ True) ∧ ((True ∧ True ∧ True) ∧ True) ∧ True ∧ ((0 :
  Int) = (0 : Int) ∧ True) ∧ ((True ∧ True ∧ True ∧ True) ∧ True) ∧ True) ∧ preW n (Rose.node ((d.snd.snd.fst.val.fst.fst, d.snd.snd.fst.val.fst.snd.fst, ()),
  d.snd.snd.fst.val.snd.fst, ()) d.snd.snd.fst.subs) (0 : Int) ∧ ((!(false || foundT n p (Rose.node ((d.snd.snd.fst.val.fst.fst, d.snd.snd.fst.val.fst.snd.fst, ()),
  d.snd.snd.fst.val.snd.fst, ()) d.snd.snd.fst.subs) (0 : Int))) = true → ((d.fst, d.snd.fst, Rose.node ((d.snd.snd.fst.val.fst.fst, d.snd.snd.fst.val.fst.snd.fst, ()),
  d.snd.snd.fst.val.snd.fst, ()) d.snd.snd.fst.subs, ()), (4 : Int)) = joinRes n d p) ∧ ((!(false || foundT n p (Rose.node ((d.snd.snd.fst.val.fst.fst,
  d.snd.snd.fst.val.fst.snd.fst, ()), d.snd.snd.fst.val.snd.fst, ()) d.snd.snd.fst.subs) (0 : Int))) = false → (decide ((1073741824 : Int) ≤ d.snd.fst) = true → ((d.fst, d.snd.fst,
  Rose.node ((d.snd.snd.fst.val.fst.fst, d.snd.snd.fst.val.fst.snd.fst, ()), d.snd.snd.fst.val.snd.fst, ()) d.snd.snd.fst.subs, ()), (2 : Int)) = joinRes n d p) ∧ (decide
  ((1073741824 : Int) ≤ d.snd.fst) = false → isI64 (d.snd.fst + (1 : Int)) ∧ ((d.fst, d.snd.fst + (1 : Int), Rose.node (((Rose.val (joinT n p (Rose.node
  ((d.snd.snd.fst.val.fst.fst, d.snd.snd.fst.val.fst.snd.fst, ()), d.snd.snd.fst.val.snd.fst, ()) d.snd.snd.fst.subs) (0 : Int))).fst.fst, (Rose.val (joinT n p (Rose.node
  ((d.snd.snd.fst.val.fst.fst, d.snd.snd.fst.val.fst.snd.fst, ()), d.snd.snd.fst.val.snd.fst, ()) d.snd.snd.fst.subs) (0 : Int))).fst.snd.fst, ()), (Rose.val (joinT n p (Rose.node
  ((d.snd.snd.fst.val.fst.fst, d.snd.snd.fst.val.fst.snd.fst, ()), d.snd.snd.fst.val.snd.fst, ()) d.snd.snd.fst.subs) (0 : Int))).snd.fst, ()) (Rose.subs (joinT n p (Rose.node
  ((d.snd.snd.fst.val.fst.fst, d.snd.snd.fst.val.fst.snd.fst, ()), d.snd.snd.fst.val.snd.fst, ()) d.snd.snd.fst.subs) (0 : Int))), ()), (0 : Int)) = joinRes n d p))))) ∧ (isI64 (p
  + (1 : Int)) ∧ preA n d ∧ (decide ((↑(areasN n d).length : Int) ≤ p + (1 : Int)) = true → ((d.fst, d.snd.fst, Rose.node ((d.snd.snd.fst.val.fst.fst,
  d.snd.snd.fst.val.fst.snd.fst, ()), d.snd.snd.fst.val.snd.fst, ()) d.snd.snd.fst.subs, ()), (5 : Int)) = joinRes n d p) ∧ (decide ((↑(areasN n d).length : Int) ≤ p + (1 : Int)) =
  false → (decide ((1073741824 : Int) ≤ (0 : Int)) = true → ((d.fst, d.snd.fst, Rose.node ((d.snd.snd.fst.val.fst.fst, d.snd.snd.fst.val.fst.snd.fst, ()),
  d.snd.snd.fst.val.snd.fst, ()) d.snd.snd.fst.subs, ()), (4 : Int)) = joinRes n d p) ∧ (decide ((1073741824 : Int) ≤ (0 : Int)) = false → isI64 ((0 : Int) + (1 : Int)) ∧ (True ∧
  True ∧ True ∧ True) ∧ ((p = p ∧ True) ∧ True ∧ ((True ∧ True) ∧ True) ∧ (false = false ∧ True) ∧ ((True ∧ True ∧ True) ∧ True) ∧ True ∧ ((0 : Int) = (0 : Int) ∧ True) ∧ ((True ∧
  True ∧ True ∧ True) ∧ True) ∧ True) ∧ preW n (Rose.node ((d.snd.snd.fst.val.fst.fst, d.snd.snd.fst.val.fst.snd.fst, ()), d.snd.snd.fst.val.snd.fst, ()) d.snd.snd.fst.subs) (0 :
  Int) ∧ ((!(false || foundT n p (Rose.node ((d.snd.snd.fst.val.fst.fst, d.snd.snd.fst.val.fst.snd.fst, ()), d.snd.snd.fst.val.snd.fst, ()) d.snd.snd.fst.subs) (0 : Int))) = true →
  ((d.fst, d.snd.fst, Rose.node ((d.snd.snd.fst.val.fst.fst, d.snd.snd.fst.val.fst.snd.fst, ()), d.snd.snd.fst.val.snd.fst, ()) d.snd.snd.fst.subs, ()), (4 : Int)) = joinRes n d p)
  ∧ ((!(false || foundT n p (Rose.node ((d.snd.snd.fst.val.fst.fst, d.snd.snd.fst.val.fst.snd.fst, ()), d.snd.snd.fst.val.snd.fst, ()) d.snd.snd.fst.subs) (0 : Int))) = false →
  (decide ((1073741824 : Int) ≤ d.snd.fst) = true → ((d.fst, d.snd.fst, Rose.node ((d.snd.snd.fst.val.fst.fst, d.snd.snd.fst.val.fst.snd.fst, ()), d.snd.snd.fst.val.snd.fst, ())
  d.snd.snd.fst.subs, ()), (2 : Int)) = joinRes n d p) ∧ (decide ((1073741824 : Int) ≤ d.snd.fst) = false → isI64 (d.snd.fst + (1 : Int)) ∧ ((d.fst, d.snd.fst + (1 : Int),
  Rose.node (((Rose.val (joinT n p (Rose.node ((d.snd.snd.fst.val.fst.fst, d.snd.snd.fst.val.fst.snd.fst, ()), d.snd.snd.fst.val.snd.fst, ()) d.snd.snd.fst.subs) (0 :
  Int))).fst.fst, (Rose.val (joinT n p (Rose.node ((d.snd.snd.fst.val.fst.fst, d.snd.snd.fst.val.fst.snd.fst, ()), d.snd.snd.fst.val.snd.fst, ()) d.snd.snd.fst.subs) (0 :
  Int))).fst.snd.fst, ()), (Rose.val (joinT n p (Rose.node ((d.snd.snd.fst.val.fst.fst, d.snd.snd.fst.val.fst.snd.fst, ()), d.snd.snd.fst.val.snd.fst, ()) d.snd.snd.fst.subs) (0 :
  Int))).snd.fst, ()) (Rose.subs (joinT n p (Rose.node ((d.snd.snd.fst.val.fst.fst, d.snd.snd.fst.val.fst.snd.fst, ()), d.snd.snd.fst.val.snd.fst, ()) d.snd.snd.fst.subs) (0 :
  Int))), ()), (0 : Int)) = joinRes n d p))))) ∧ preA n d ∧ (isI64 (p + (1 : Int)) ∧ (decide ((↑(areasN n d).length : Int) ≤ p + (1 : Int)) = true → ((d.fst, d.snd.fst, Rose.node
  ((d.snd.snd.fst.val.fst.fst, d.snd.snd.fst.val.fst.snd.fst, ()), d.snd.snd.fst.val.snd.fst, ()) d.snd.snd.fst.subs, ()), (5 : Int)) = joinRes n d p) ∧ (decide ((↑(areasN n
  d).length : Int) ≤ p + (1 : Int)) = false → (decide ((1073741824 : Int) ≤ (0 : Int)) = true → ((d.fst, d.snd.fst, Rose.node ((d.snd.snd.fst.val.fst.fst,
  d.snd.snd.fst.val.fst.snd.fst, ()), d.snd.snd.fst.val.snd.fst, ()) d.snd.snd.fst.subs, ()), (4 : Int)) = joinRes n d p) ∧ (decide ((1073741824 : Int) ≤ (0 : Int)) = false → isI64
  ((0 : Int) + (1 : Int)) ∧ (True ∧ True ∧ True ∧ True) ∧ ((p = p ∧ True) ∧ True ∧ ((True ∧ True) ∧ True) ∧ (false = false ∧ True) ∧ ((True ∧ True ∧ True) ∧ True) ∧ True ∧ ((0 :
  Int) = (0 : Int) ∧ True) ∧ ((True ∧ True ∧ True ∧ True) ∧ True) ∧ True) ∧ preW n (Rose.node ((d.snd.snd.fst.val.fst.fst, d.snd.snd.fst.val.fst.snd.fst, ()),
  d.snd.snd.fst.val.snd.fst, ()) d.snd.snd.fst.subs) (0 : Int) ∧ ((!(false || foundT n p (Rose.node ((d.snd.snd.fst.val.fst.fst, d.snd.snd.fst.val.fst.snd.fst, ()),
  d.snd.snd.fst.val.snd.fst, ()) d.snd.snd.fst.subs) (0 : Int))) = true → ((d.fst, d.snd.fst, Rose.node ((d.snd.snd.fst.val.fst.fst, d.snd.snd.fst.val.fst.snd.fst, ()),
  d.snd.snd.fst.val.snd.fst, ()) d.snd.snd.fst.subs, ()), (4 : Int)) = joinRes n d p) ∧ ((!(false || foundT n p (Rose.node ((d.snd.snd.fst.val.fst.fst,
  d.snd.snd.fst.val.fst.snd.fst, ()), d.snd.snd.fst.val.snd.fst, ()) d.snd.snd.fst.subs) (0 : Int))) = false → (decide ((1073741824 : Int) ≤ d.snd.fst) = true → ((d.fst, d.snd.fst,
  Rose.node ((d.snd.snd.fst.val.fst.fst, d.snd.snd.fst.val.fst.snd.fst, ()), d.snd.snd.fst.val.snd.fst, ()) d.snd.snd.fst.subs, ()), (2 : Int)) = joinRes n d p) ∧ (decide
  ((1073741824 : Int) ≤ d.snd.fst) = false → isI64 (d.snd.fst + (1 : Int)) ∧ ((d.fst, d.snd.fst + (1 : Int), Rose.node (((Rose.val (joinT n p (Rose.node
  ((d.snd.snd.fst.val.fst.fst, d.snd.snd.fst.val.fst.snd.fst, ()), d.snd.snd.fst.val.snd.fst, ()) d.snd.snd.fst.subs) (0 : Int))).fst.fst, (Rose.val (joinT n p (Rose.node
  ((d.snd.snd.fst.val.fst.fst, d.snd.snd.fst.val.fst.snd.fst, ()), d.snd.snd.fst.val.snd.fst, ()) d.snd.snd.fst.subs) (0 : Int))).fst.snd.fst, ()), (Rose.val (joinT n p (Rose.node
  ((d.snd.snd.fst.val.fst.fst, d.snd.snd.fst.val.fst.snd.fst, ()), d.snd.snd.fst.val.snd.fst, ()) d.snd.snd.fst.subs) (0 : Int))).snd.fst, ()) (Rose.subs (joinT n p (Rose.node
  ((d.snd.snd.fst.val.fst.fst, d.snd.snd.fst.val.fst.snd.fst, ()), d.snd.snd.fst.val.snd.fst, ()) d.snd.snd.fst.subs) (0 : Int))), ()), (0 : Int)) = joinRes n d p))))) ∧ isI64 (p +
  (1 : Int)) ∧ (decide ((↑(areasN n d).length : Int) ≤ p + (1 : Int)) = true → ((d.fst, d.snd.fst, Rose.node ((d.snd.snd.fst.val.fst.fst, d.snd.snd.fst.val.fst.snd.fst, ()),
  d.snd.snd.fst.val.snd.fst, ()) d.snd.snd.fst.subs, ()), (5 : Int)) = joinRes n d p) ∧ (decide ((↑(areasN n d).length : Int) ≤ p + (1 : Int)) = false → (decide ((1073741824 : Int)
  ≤ (0 : Int)) = true → ((d.fst, d.snd.fst, Rose.node ((d.snd.snd.fst.val.fst.fst, d.snd.snd.fst.val.fst.snd.fst, ()), d.snd.snd.fst.val.snd.fst, ()) d.snd.snd.fst.subs, ()), (4 :
  Int)) = joinRes n d p) ∧ (decide ((1073741824 : Int) ≤ (0 : Int)) = false → isI64 ((0 : Int) + (1 : Int)) ∧ (True ∧ True ∧ True ∧ True) ∧ ((p = p ∧ True) ∧ True ∧ ((True ∧ True)
  ∧ True) ∧ (false = false ∧ True) ∧ ((True ∧ True ∧ True) ∧ True) ∧ True ∧ ((0 : Int) = (0 : Int) ∧ True) ∧ ((True ∧ True ∧ True ∧ True) ∧ True) ∧ True) ∧ preW n (Rose.node
  ((d.snd.snd.fst.val.fst.fst, d.snd.snd.fst.val.fst.snd.fst, ()), d.snd.snd.fst.val.snd.fst, ()) d.snd.snd.fst.subs) (0 : Int) ∧ ((!(false || foundT n p (Rose.node
  ((d.snd.snd.fst.val.fst.fst, d.snd.snd.fst.val.fst.snd.fst, ()), d.snd.snd.fst.val.snd.fst, ()) d.snd.snd.fst.subs) (0 : Int))) = true → ((d.fst, d.snd.fst, Rose.node
  ((d.snd.snd.fst.val.fst.fst, d.snd.snd.fst.val.fst.snd.fst, ()), d.snd.snd.fst.val.snd.fst, ()) d.snd.snd.fst.subs, ()), (4 : Int)) = joinRes n d p) ∧ ((!(false || foundT n p
  (Rose.node ((d.snd.snd.fst.val.fst.fst, d.snd.snd.fst.val.fst.snd.fst, ()), d.snd.snd.fst.val.snd.fst, ()) d.snd.snd.fst.subs) (0 : Int))) = false → (decide ((1073741824 : Int) ≤
  d.snd.fst) = true → ((d.fst, d.snd.fst, Rose.node ((d.snd.snd.fst.val.fst.fst, d.snd.snd.fst.val.fst.snd.fst, ()), d.snd.snd.fst.val.snd.fst, ()) d.snd.snd.fst.subs, ()), (2 :
  Int)) = joinRes n d p) ∧ (decide ((1073741824 : Int) ≤ d.snd.fst) = false → isI64 (d.snd.fst + (1 : Int)) ∧ ((d.fst, d.snd.fst + (1 : Int), Rose.node (((Rose.val (joinT n p
  (Rose.node ((d.snd.snd.fst.val.fst.fst, d.snd.snd.fst.val.fst.snd.fst, ()), d.snd.snd.fst.val.snd.fst, ()) d.snd.snd.fst.subs) (0 : Int))).fst.fst, (Rose.val (joinT n p
  (Rose.node ((d.snd.snd.fst.val.fst.fst, d.snd.snd.fst.val.fst.snd.fst, ()), d.snd.snd.fst.val.snd.fst, ()) d.snd.snd.fst.subs) (0 : Int))).fst.snd.fst, ()), (Rose.val (joinT n p
  (Rose.node ((d.snd.snd.fst.val.fst.fst, d.snd.snd.fst.val.fst.snd.fst, ()), d.snd.snd.fst.val.snd.fst, ()) d.snd.snd.fst.subs) (0 : Int))).snd.fst, ()) (Rose.subs (joinT n p
  (Rose.node ((d.snd.snd.fst.val.fst.fst, d.snd.snd.fst.val.fst.snd.fst, ()), d.snd.snd.fst.val.snd.fst, ()) d.snd.snd.fst.subs) (0 : Int))), ()), (0 : Int)) = joinRes n d p))))))
  ∧ (decide (p < (0 : Int)) = true → (((d.fst, d.snd.fst, Rose.node ((d.snd.snd.fst.val.fst.fst, d.snd.snd.fst.val.fst.snd.fst, ()), d.snd.snd.fst.val.snd.fst, ())
  d.snd.snd.fst.subs, ()), (5 : Int)) = joinRes n d p ∧ ((d.fst, d.snd.fst, Rose.node ((d.snd.snd.fst.val.fst.fst, d.snd.snd.fst.val.fst.snd.fst, ()), d.snd.snd.fst.val.snd.fst,
  ()) d.snd.snd.fst.subs, ()), (5 : Int)) = joinRes n d p ∧ ((d.fst, d.snd.fst, Rose.node ((d.snd.snd.fst.val.fst.fst, d.snd.snd.fst.val.fst.snd.fst, ()),
  d.snd.snd.fst.val.snd.fst, ()) d.snd.snd.fst.subs, ()), (5 : Int)) = joinRes n d p) ∧ (((d.fst, d.snd.fst, Rose.node ((d.snd.snd.fst.val.fst.fst, d.snd.snd.fst.val.fst.snd.fst,
  ()), d.snd.snd.fst.val.snd.fst, ()) d.snd.snd.fst.subs, ()), (5 : Int)) = joinRes n d p ∧ ((d.fst, d.snd.fst, Rose.node ((d.snd.snd.fst.val.fst.fst,
  d.snd.snd.fst.val.fst.snd.fst, ()), d.snd.snd.fst.val.snd.fst, ()) d.snd.snd.fst.subs, ()), (5 : Int)) = joinRes n d p) ∧ ((d.fst, d.snd.fst, Rose.node
  ((d.snd.snd.fst.val.fst.fst, d.snd.snd.fst.val.fst.snd.fst, ()), d.snd.snd.fst.val.snd.fst, ()) d.snd.snd.fst.subs, ()), (5 : Int)) = joinRes n d p) ∧ (decide (p < (0 : Int)) =
  false → ((isI64 (p + (1 : Int)) ∧ preA n d ∧ (decide ((↑(areasN n d).length : Int) ≤ p + (1 : Int)) = true → ((d.fst, d.snd.fst, Rose.node ((d.snd.snd.fst.val.fst.fst,
  d.snd.snd.fst.val.fst.snd.fst, ()), d.snd.snd.fst.val.snd.fst, ()) d.snd.snd.fst.subs, ()), (5 : Int)) = joinRes n d p) ∧ (decide ((↑(areasN n d).length : Int) ≤ p + (1 : Int)) =
  false → (decide ((1073741824 : Int) ≤ (0 : Int)) = true → ((d.fst, d.snd.fst, Rose.node ((d.snd.snd.fst.val.fst.fst, d.snd.snd.fst.val.fst.snd.fst, ()),
  d.snd.snd.fst.val.snd.fst, ()) d.snd.snd.fst.subs, ()), (4 : Int)) = joinRes n d p) ∧ (decide ((1073741824 : Int) ≤ (0 : Int)) = false → isI64 ((0 : Int) + (1 : Int)) ∧ (True ∧
  True ∧ True ∧ True) ∧ ((p = p ∧ True) ∧ True ∧ ((True ∧ True) ∧ True) ∧ (false = false ∧ True) ∧ ((True ∧ True ∧ True) ∧ True) ∧ True ∧ ((0 : Int) = (0 : Int) ∧ True) ∧ ((True ∧
  True ∧ True ∧ True) ∧ True) ∧ True) ∧ preW n (Rose.node ((d.snd.snd.fst.val.fst.fst, d.snd.snd.fst.val.fst.snd.fst, ()), d.snd.snd.fst.val.snd.fst, ()) d.snd.snd.fst.subs) (0 :
  Int) ∧ ((!(false || foundT n p (Rose.node ((d.snd.snd.fst.val.fst.fst, d.snd.snd.fst.val.fst.snd.fst, ()), d.snd.snd.fst.val.snd.fst, ()) d.snd.snd.fst.subs) (0 : Int))) = true →
  ((d.fst, d.snd.fst, Rose.node ((d.snd.snd.fst.val.fst.fst, d.snd.snd.fst.val.fst.snd.fst, ()), d.snd.snd.fst.val.snd.fst, ()) d.snd.snd.fst.subs, ()), (4 : Int)) = joinRes n d p)
  ∧ ((!(false || foundT n p (Rose.node ((d.snd.snd.fst.val.fst.fst, d.snd.snd.fst.val.fst.snd.fst, ()), d.snd.snd.fst.val.snd.fst, ()) d.snd.snd.fst.subs) (0 : Int))) = false →
  (decide ((1073741824 : Int) ≤ d.snd.fst) = true → ((d.fst, d.snd.fst, Rose.node ((d.snd.snd.fst.val.fst.fst, d.snd.snd.fst.val.fst.snd.fst, ()), d.snd.snd.fst.val.snd.fst, ())
  d.snd.snd.fst.subs, ()), (2 : Int)) = joinRes n d p) ∧ (decide ((1073741824 : Int) ≤ d.snd.fst) = false → isI64 (d.snd.fst + (1 : Int)) ∧ ((d.fst, d.snd.fst + (1 : Int),
  Rose.node (((Rose.val (joinT n p (Rose.node ((d.snd.snd.fst.val.fst.fst, d.snd.snd.fst.val.fst.snd.fst, ()), d.snd.snd.fst.val.snd.fst, ()) d.snd.snd.fst.subs) (0 :
  Int))).fst.fst, (Rose.val (joinT n p (Rose.node ((d.snd.snd.fst.val.fst.fst, d.snd.snd.fst.val.fst.snd.fst, ()), d.snd.snd.fst.val.snd.fst, ()) d.snd.snd.fst.subs) (0 :
  Int))).fst.snd.fst, ()), (Rose.val (joinT n p (Rose.node ((d.snd.snd.fst.val.fst.fst, d.snd.snd.fst.val.fst.snd.fst, ()), d.snd.snd.fst.val.snd.fst, ()) d.snd.snd.fst.subs) (0 :
  Int))).snd.fst, ()) (Rose.subs (joinT n p (Rose.node ((d.snd.snd.fst.val.fst.fst, d.snd.snd.fst.val.fst.snd.fst, ()), d.snd.snd.fst.val.snd.fst, ()) d.snd.snd.fst.subs) (0 :
  Int))), ()), (0 : Int)) = joinRes n d p))))) ∧ preA n d ∧ (isI64 (p + (1 : Int)) ∧ (decide ((↑(areasN n d).length : Int) ≤ p + (1 : Int)) = true → ((d.fst, d.snd.fst, Rose.node
  ((d.snd.snd.fst.val.fst.fst, d.snd.snd.fst.val.fst.snd.fst, ()), d.snd.snd.fst.val.snd.fst, ()) d.snd.snd.fst.subs, ()), (5 : Int)) = joinRes n d p) ∧ (decide ((↑(areasN n
  d).length : Int) ≤ p + (1 : Int)) = false → (decide ((1073741824 : Int) ≤ (0 : Int)) = true → ((d.fst, d.snd.fst, Rose.node ((d.snd.snd.fst.val.fst.fst,
  d.snd.snd.fst.val.fst.snd.fst, ()), d.snd.snd.fst.val.snd.fst, ()) d.snd.snd.fst.subs, ()), (4 : Int)) = joinRes n d p) ∧ (decide ((1073741824 : Int) ≤ (0 : Int)) = false → isI64
  ((0 : Int) + (1 : Int)) ∧ (True ∧ True ∧ True ∧ True) ∧ ((p = p ∧ True) ∧ True ∧ ((True ∧ True) ∧ True) ∧ (false = false ∧ True) ∧ ((True ∧ True ∧ True) ∧ True) ∧ True ∧ ((0 :
  Int) = (0 : Int) ∧ True) ∧ ((True ∧ True ∧ True ∧ True) ∧ True) ∧ True) ∧ preW n (Rose.node ((d.snd.snd.fst.val.fst.fst, d.snd.snd.fst.val.fst.snd.fst, ()),
  d.snd.snd.fst.val.snd.fst, ()) d.snd.snd.fst.subs) (0 : Int) ∧ ((!(false || foundT n p (Rose.node ((d.snd.snd.fst.val.fst.fst, d.snd.snd.fst.val.fst.snd.fst, ()),
  d.snd.snd.fst.val.snd.fst, ()) d.snd.snd.fst.subs) (0 : Int))) = true → ((d.fst, d.snd.fst, Rose.node ((d.snd.snd.fst.val.fst.fst, d.snd.snd.fst.val.fst.snd.fst, ()),
  d.snd.snd.fst.val.snd.fst, ()) d.snd.snd.fst.subs, ()), (4 : Int)) = joinRes n d p) ∧ ((!(false || foundT n p (Rose.node ((d.snd.snd.fst.val.fst.fst,
  d.snd.snd.fst.val.fst.snd.fst, ()), d.snd.snd.fst.val.snd.fst, ()) d.snd.snd.fst.subs) (0 : Int))) = false → (decide ((1073741824 : Int) ≤ d.snd.fst) = true → ((d.fst, d.snd.fst,
  Rose.node ((d.snd.snd.fst.val.fst.fst, d.snd.snd.fst.val.fst.snd.fst, ()), d.snd.snd.fst.val.snd.fst, ()) d.snd.snd.fst.subs, ()), (2 : Int)) = joinRes n d p) ∧ (decide
  ((1073741824 : Int) ≤ d.snd.fst) = false → isI64 (d.snd.fst + (1 : Int)) ∧ ((d.fst, d.snd.fst + (1 : Int), Rose.node (((Rose.val (joinT n p (Rose.node
  ((d.snd.snd.fst.val.fst.fst, d.snd.snd.fst.val.fst.snd.fst, ()), d.snd.snd.fst.val.snd.fst, ()) d.snd.snd.fst.subs) (0 : Int))).fst.fst, (Rose.val (joinT n p (Rose.node
  ((d.snd.snd.fst.val.fst.fst, d.snd.snd.fst.val.fst.snd.fst, ()), d.snd.snd.fst.val.snd.fst, ()) d.snd.snd.fst.subs) (0 : Int))).fst.snd.fst, ()), (Rose.val (joinT n p (Rose.node
  ((d.snd.snd.fst.val.fst.fst, d.snd.snd.fst.val.fst.snd.fst, ()), d.snd.snd.fst.val.snd.fst, ()) d.snd.snd.fst.subs) (0 : Int))).snd.fst, ()) (Rose.subs (joinT n p (Rose.node
  ((d.snd.snd.fst.val.fst.fst, d.snd.snd.fst.val.fst.snd.fst, ()), d.snd.snd.fst.val.snd.fst, ()) d.snd.snd.fst.subs) (0 : Int))), ()), (0 : Int)) = joinRes n d p))))) ∧ isI64 (p +
  (1 : Int)) ∧ (decide ((↑(areasN n d).length : Int) ≤ p + (1 : Int)) = true → ((d.fst, d.snd.fst, Rose.node ((d.snd.snd.fst.val.fst.fst, d.snd.snd.fst.val.fst.snd.fst, ()),
  d.snd.snd.fst.val.snd.fst, ()) d.snd.snd.fst.subs, ()), (5 : Int)) = joinRes n d p) ∧ (decide ((↑(areasN n d).length : Int) ≤ p + (1 : Int)) = false → (decide ((1073741824 : Int)
  ≤ (0 : Int)) = true → ((d.fst, d.snd.fst, Rose.node ((d.snd.snd.fst.val.fst.fst, d.snd.snd.fst.val.fst.snd.fst, ()), d.snd.snd.fst.val.snd.fst, ()) d.snd.snd.fst.subs, ()), (4 :
  Int)) = joinRes n d p) ∧ (decide ((1073741824 : Int) ≤ (0 : Int)) = false → isI64 ((0 : Int) + (1 : Int)) ∧ (True ∧ True ∧ True ∧ True) ∧ ((p = p ∧ True) ∧ True ∧ ((True ∧ True)
  ∧ True) ∧ (false = false ∧ True) ∧ ((True ∧ True ∧ True) ∧ True) ∧ True ∧ ((0 : Int) = (0 : Int) ∧ True) ∧ ((True ∧ True ∧ True ∧ True) ∧ True) ∧ True) ∧ preW n (Rose.node
  ((d.snd.snd.fst.val.fst.fst, d.snd.snd.fst.val.fst.snd.fst, ()), d.snd.snd.fst.val.snd.fst, ()) d.snd.snd.fst.subs) (0 : Int) ∧ ((!(false || foundT n p (Rose.node
  ((d.snd.snd.fst.val.fst.fst, d.snd.snd.fst.val.fst.snd.fst, ()), d.snd.snd.fst.val.snd.fst, ()) d.snd.snd.fst.subs) (0 : Int))) = true → ((d.fst, d.snd.fst, Rose.node
  ((d.snd.snd.fst.val.fst.fst, d.snd.snd.fst.val.fst.snd.fst, ()), d.snd.snd.fst.val.snd.fst, ()) d.snd.snd.fst.subs, ()), (4 : Int)) = joinRes n d p) ∧ ((!(false || foundT n p
  (Rose.node ((d.snd.snd.fst.val.fst.fst, d.snd.snd.fst.val.fst.snd.fst, ()), d.snd.snd.fst.val.snd.fst, ()) d.snd.snd.fst.subs) (0 : Int))) = false → (decide ((1073741824 : Int) ≤
  d.snd.fst) = true → ((d.fst, d.snd.fst, Rose.node ((d.snd.snd.fst.val.fst.fst, d.snd.snd.fst.val.fst.snd.fst, ()), d.snd.snd.fst.val.snd.fst, ()) d.snd.snd.fst.subs, ()), (2 :
  Int)) = joinRes n d p) ∧ (decide ((1073741824 : Int) ≤ d.snd.fst) = false → isI64 (d.snd.fst + (1 : Int)) ∧ ((d.fst, d.snd.fst + (1 : Int), Rose.node (((Rose.val (joinT n p
  (Rose.node ((d.snd.snd.fst.val.fst.fst, d.snd.snd.fst.val.fst.snd.fst, ()), d.snd.snd.fst.val.snd.fst, ()) d.snd.snd.fst.subs) (0 : Int))).fst.fst, (Rose.val (joinT n p
  (Rose.node ((d.snd.snd.fst.val.fst.fst, d.snd.snd.fst.val.fst.snd.fst, ()), d.snd.snd.fst.val.snd.fst, ()) d.snd.snd.fst.subs) (0 : Int))).fst.snd.fst, ()), (Rose.val (joinT n p
  (Rose.node ((d.snd.snd.fst.val.fst.fst, d.snd.snd.fst.val.fst.snd.fst, ()), d.snd.snd.fst.val.snd.fst, ()) d.snd.snd.fst.subs) (0 : Int))).snd.fst, ()) (Rose.subs (joinT n p
  (Rose.node ((d.snd.snd.fst.val.fst.fst, d.snd.snd.fst.val.fst.snd.fst, ()), d.snd.snd.fst.val.snd.fst, ()) d.snd.snd.fst.subs) (0 : Int))), ()), (0 : Int)) = joinRes n d p))))) ∧
  preA n d ∧ ((isI64 (p + (1 : Int)) ∧ (decide ((↑(areasN n d).length : Int) ≤ p + (1 : Int)) = true → ((d.fst, d.snd.fst, Rose.node ((d.snd.snd.fst.val.fst.fst,
  d.snd.snd.fst.val.fst.snd.fst, ()), d.snd.snd.fst.val.snd.fst, ()) d.snd.snd.fst.subs, ()), (5 : Int)) = joinRes n d p) ∧ (decide ((↑(areasN n d).length : Int) ≤ p + (1 : Int)) =
  false → (decide ((1073741824 : Int) ≤ (0 : Int)) = true → ((d.fst, d.snd.fst, Rose.node ((d.snd.snd.fst.val.fst.fst, d.snd.snd.fst.val.fst.snd.fst, ()),
  d.snd.snd.fst.val.snd.fst, ()) d.snd.snd.fst.subs, ()), (4 : Int)) = joinRes n d p) ∧ (decide ((1073741824 : Int) ≤ (0 : Int)) = false → isI64 ((0 : Int) + (1 : Int)) ∧ (True ∧
  True ∧ True ∧ True) ∧ ((p = p ∧ True) ∧ True ∧ ((True ∧ True) ∧ True) ∧ (false = false ∧ True) ∧ ((True ∧ True ∧ True) ∧ True) ∧ True ∧ ((0 : Int) = (0 : Int) ∧ True) ∧ ((True ∧
  True ∧ True ∧ True) ∧ True) ∧ True) ∧ preW n (Rose.node ((d.snd.snd.fst.val.fst.fst, d.snd.snd.fst.val.fst.snd.fst, ()), d.snd.snd.fst.val.snd.fst, ()) d.snd.snd.fst.subs) (0 :
  Int) ∧ ((!(false || foundT n p (Rose.node ((d.snd.snd.fst.val.fst.fst, d.snd.snd.fst.val.fst.snd.fst, ()), d.snd.snd.fst.val.snd.fst, ()) d.snd.snd.fst.subs) (0 : Int))) = true →
  ((d.fst, d.snd.fst, Rose.node ((d.snd.snd.fst.val.fst.fst, d.snd.snd.fst.val.fst.snd.fst, ()), d.snd.snd.fst.val.snd.fst, ()) d.snd.snd.fst.subs, ()), (4 : Int)) = joinRes n d p)
  ∧ ((!(false || foundT n p (Rose.node ((d.snd.snd.fst.val.fst.fst, d.snd.snd.fst.val.fst.snd.fst, ()), d.snd.snd.fst.val.snd.fst, ()) d.snd.snd.fst.subs) (0 : Int))) = false →
  (decide ((1073741824 : Int) ≤ d.snd.fst) = true → ((d.fst, d.snd.fst, Rose.node ((d.snd.snd.fst.val.fst.fst, d.snd.snd.fst.val.fst.snd.fst, ()), d.snd.snd.fst.val.snd.fst, ())
  d.snd.snd.fst.subs, ()), (2 : Int)) = joinRes n d p) ∧ (decide ((1073741824 : Int) ≤ d.snd.fst) = false → isI64 (d.snd.fst + (1 : Int)) ∧ ((d.fst, d.snd.fst + (1 : Int),
  Rose.node (((Rose.val (joinT n p (Rose.node ((d.snd.snd.fst.val.fst.fst, d.snd.snd.fst.val.fst.snd.fst, ()), d.snd.snd.fst.val.snd.fst, ()) d.snd.snd.fst.subs) (0 :
  Int))).fst.fst, (Rose.val (joinT n p (Rose.node ((d.snd.snd.fst.val.fst.fst, d.snd.snd.fst.val.fst.snd.fst, ()), d.snd.snd.fst.val.snd.fst, ()) d.snd.snd.fst.subs) (0 :
  Int))).fst.snd.fst, ()), (Rose.val (joinT n p (Rose.node ((d.snd.snd.fst.val.fst.fst, d.snd.snd.fst.val.fst.snd.fst, ()), d.snd.snd.fst.val.snd.fst, ()) d.snd.snd.fst.subs) (0 :
  Int))).snd.fst, ()) (Rose.subs (joinT n p (Rose.node ((d.snd.snd.fst.val.fst.fst, d.snd.snd.fst.val.fst.snd.fst, ()), d.snd.snd.fst.val.snd.fst, ()) d.snd.snd.fst.subs) (0 :
  Int))), ()), (0 : Int)) = joinRes n d p))))) ∧ isI64 (p + (1 : Int)) ∧ (decide ((↑(areasN n d).length : Int) ≤ p + (1 : Int)) = true → ((d.fst, d.snd.fst, Rose.node
  ((d.snd.snd.fst.val.fst.fst, d.snd.snd.fst.val.fst.snd.fst, ()), d.snd.snd.fst.val.snd.fst, ()) d.snd.snd.fst.subs, ()), (5 : Int)) = joinRes n d p) ∧ (decide ((↑(areasN n
  d).length : Int) ≤ p + (1 : Int)) = false → (decide ((1073741824 : Int) ≤ (0 : Int)) = true → ((d.fst, d.snd.fst, Rose.node ((d.snd.snd.fst.val.fst.fst,
  d.snd.snd.fst.val.fst.snd.fst, ()), d.snd.snd.fst.val.snd.fst, ()) d.snd.snd.fst.subs, ()), (4 : Int)) = joinRes n d p) ∧ (decide ((1073741824 : Int) ≤ (0 : Int)) = false → isI64
  ((0 : Int) + (1 : Int)) ∧ (True ∧ True ∧ True ∧ True) ∧ ((p = p ∧ True) ∧ True ∧ ((True ∧ True) ∧ True) ∧ (false = false ∧ True) ∧ ((True ∧ True ∧ True) ∧ True) ∧ True ∧ ((0 :
  Int) = (0 : Int) ∧ True) ∧ ((True ∧ True ∧ True ∧ True) ∧ True) ∧ True) ∧ preW n (Rose.node ((d.snd.snd.fst.val.fst.fst, d.snd.snd.fst.val.fst.snd.fst, ()),
  d.snd.snd.fst.val.snd.fst, ()) d.snd.snd.fst.subs) (0 : Int) ∧ ((!(false || foundT n p (Rose.node ((d.snd.snd.fst.val.fst.fst, d.snd.snd.fst.val.fst.snd.fst, ()),
  d.snd.snd.fst.val.snd.fst, ()) d.snd.snd.fst.subs) (0 : Int))) = true → ((d.fst, d.snd.fst, Rose.node ((d.snd.snd.fst.val.fst.fst, d.snd.snd.fst.val.fst.snd.fst, ()),
  d.snd.snd.fst.val.snd.fst, ()) d.snd.snd.fst.subs, ()), (4 : Int)) = joinRes n d p) ∧ ((!(false || foundT n p (Rose.node ((d.snd.snd.fst.val.fst.fst,
  d.snd.snd.fst.val.fst.snd.fst, ()), d.snd.snd.fst.val.snd.fst, ()) d.snd.snd.fst.subs) (0 : Int))) = false → (decide ((1073741824 : Int) ≤ d.snd.fst) = true → ((d.fst, d.snd.fst,
  Rose.node ((d.snd.snd.fst.val.fst.fst, d.snd.snd.fst.val.fst.snd.fst, ()), d.snd.snd.fst.val.snd.fst, ()) d.snd.snd.fst.subs, ()), (2 : Int)) = joinRes n d p) ∧ (decide
  ((1073741824 : Int) ≤ d.snd.fst) = false → isI64 (d.snd.fst + (1 : Int)) ∧ ((d.fst, d.snd.fst + (1 : Int), Rose.node (((Rose.val (joinT n p (Rose.node
  ((d.snd.snd.fst.val.fst.fst, d.snd.snd.fst.val.fst.snd.fst, ()), d.snd.snd.fst.val.snd.fst, ()) d.snd.snd.fst.subs) (0 : Int))).fst.fst, (Rose.val (joinT n p (Rose.node
  ((d.snd.snd.fst.val.fst.fst, d.snd.snd.fst.val.fst.snd.fst, ()), d.snd.snd.fst.val.snd.fst, ()) d.snd.snd.fst.subs) (0 : Int))).fst.snd.fst, ()), (Rose.val (joinT n p (Rose.node
  ((d.snd.snd.fst.val.fst.fst, d.snd.snd.fst.val.fst.snd.fst, ()), d.snd.snd.fst.val.snd.fst, ()) d.snd.snd.fst.subs) (0 : Int))).snd.fst, ()) (Rose.subs (joinT n p (Rose.node
  ((d.snd.snd.fst.val.fst.fst, d.snd.snd.fst.val.fst.snd.fst, ()), d.snd.snd.fst.val.snd.fst, ()) d.snd.snd.fst.subs) (0 : Int))), ()), (0 : Int)) = joinRes n d p))))) ∧ isI64 (p +
  (1 : Int)) ∧ (decide ((↑(areasN n d).length : Int) ≤ p + (1 : Int)) = true → ((d.fst, d.snd.fst, Rose.node ((d.snd.snd.fst.val.fst.fst, d.snd.snd.fst.val.fst.snd.fst, ()),
  d.snd.snd.fst.val.snd.fst, ()) d.snd.snd.fst.subs, ()), (5 : Int)) = joinRes n d p) ∧ (decide ((↑(areasN n d).length : Int) ≤ p + (1 : Int)) = false → (decide ((1073741824 : Int)
  ≤ (0 : Int)) = true → ((d.fst, d.snd.fst, Rose.node ((d.snd.snd.fst.val.fst.fst, d.snd.snd.fst.val.fst.snd.fst, ()), d.snd.snd.fst.val.snd.fst, ()) d.snd.snd.fst.subs, ()), (4 :
  Int)) = joinRes n d p) ∧ (decide ((1073741824 : Int) ≤ (0 : Int)) = false → isI64 ((0 : Int) + (1 : Int)) ∧ (True ∧ True ∧ True ∧ True) ∧ ((p = p ∧ True) ∧ True ∧ ((True ∧ True)
  ∧ True) ∧ (false = false ∧ True) ∧ ((True ∧ True ∧ True) ∧ True) ∧ True ∧ ((0 : Int) = (0 : Int) ∧ True) ∧ ((True ∧ True ∧ True ∧ True) ∧ True) ∧ True) ∧ preW n (Rose.node
  ((d.snd.snd.fst.val.fst.fst, d.snd.snd.fst.val.fst.snd.fst, ()), d.snd.snd.fst.val.snd.fst, ()) d.snd.snd.fst.subs) (0 : Int) ∧ ((!(false || foundT n p (Rose.node
  ((d.snd.snd.fst.val.fst.fst, d.snd.snd.fst.val.fst.snd.fst, ()), d.snd.snd.fst.val.snd.fst, ()) d.snd.snd.fst.subs) (0 : Int))) = true → ((d.fst, d.snd.fst, Rose.node
  ((d.snd.snd.fst.val.fst.fst, d.snd.snd.fst.val.fst.snd.fst, ()), d.snd.snd.fst.val.snd.fst, ()) d.snd.snd.fst.subs, ()), (4 : Int)) = joinRes n d p) ∧ ((!(false || foundT n p
  (Rose.node ((d.snd.snd.fst.val.fst.fst, d.snd.snd.fst.val.fst.snd.fst, ()), d.snd.snd.fst.val.snd.fst, ()) d.snd.snd.fst.subs) (0 : Int))) = false → (decide ((1073741824 : Int) ≤
  d.snd.fst) = true → ((d.fst, d.snd.fst, Rose.node ((d.snd.snd.fst.val.fst.fst, d.snd.snd.fst.val.fst.snd.fst, ()), d.snd.snd.fst.val.snd.fst, ()) d.snd.snd.fst.subs, ()), (2 :
  Int)) = joinRes n d p) ∧ (decide ((1073741824 : Int) ≤ d.snd.fst) = false → isI64 (d.snd.fst + (1 : Int)) ∧ ((d.fst, d.snd.fst + (1 : Int), Rose.node (((Rose.val (joinT n p
  (Rose.node ((d.snd.snd.fst.val.fst.fst, d.snd.snd.fst.val.fst.snd.fst, ()), d.snd.snd.fst.val.snd.fst, ()) d.snd.snd.fst.subs) (0 : Int))).fst.fst, (Rose.val (joinT n p
  (Rose.node ((d.snd.snd.fst.val.fst.fst, d.snd.snd.fst.val.fst.snd.fst, ()), d.snd.snd.fst.val.snd.fst, ()) d.snd.snd.fst.subs) (0 : Int))).fst.snd.fst, ()), (Rose.val (joinT n p
  (Rose.node ((d.snd.snd.fst.val.fst.fst, d.snd.snd.fst.val.fst.snd.fst, ()), d.snd.snd.fst.val.snd.fst, ()) d.snd.snd.fst.subs) (0 : Int))).snd.fst, ()) (Rose.subs (joinT n p
  (Rose.node ((d.snd.snd.fst.val.fst.fst, d.snd.snd.fst.val.fst.snd.fst, ()), d.snd.snd.fst.val.snd.fst, ()) d.snd.snd.fst.subs) (0 : Int))), ()), (0 : Int)) = joinRes n d p))))))
  := by kernel_rfl
def sameTSp (n : Nat) : FSpec := ⟨[ST, ST], [.bool], fun x => sameP n x.1 x.2, fun _ => true⟩
def sameT1Sp (n : Nat) : FSpec := ⟨[ST, ST], [.bool], fun x => sameP (n + 1) x.1 x.2, fun _ => true⟩
def hintSt (f : FuncId) : Hint := ⟨fun _ => bif Nat.beq f 21 then [.slot 5 I] else bif Nat.beq f 46 then [.slot 5 I] else [], fun _ => .split, fun _ => .split, fun _ => 0⟩
noncomputable def FS (n : Nat) : Ctx := mkctx bs [(21, sameTSp n), (51, same6Sp)] [] hintSt
theorem sameT_nf (n : Nat) (a b : Sp) : fnwp (FS n) 6 21 (sameT1Sp n) (a, b) = (((!decide ((Rose.val a).fst.fst = (Rose.val b).fst.fst)) = true → false = true) ∧ ((!decide
  ((Rose.val a).fst.fst = (Rose.val b).fst.fst)) = false → ((!decide ((Rose.val a).fst.snd.fst = (Rose.val b).fst.snd.fst)) = true → false = true) ∧ ((!decide ((Rose.val
  a).fst.snd.fst = (Rose.val b).fst.snd.fst)) = false → True ∧ ((!decide ((Rose.val a).snd.fst = (Rose.val b).snd.fst)) = true → false = true) ∧ ((!decide ((Rose.val a).snd.fst =
  (Rose.val b).snd.fst)) = false → ((!decide ((↑(Rose.subs a).length : Int) = (↑(Rose.subs b).length : Int))) = true → false = true) ∧ ((!decide ((↑(Rose.subs a).length : Int) =
  (↑(Rose.subs b).length : Int))) = false → ∃ (I : Int → Prop), ∃ (μ : Int → Nat), I (0 : Int) ∧ ∀ (x : Int), I x → (decide (x < (↑(Rose.subs a).length : Int)) = true → ((0 : Int)
  ≤ x ∧ x < (↑(Rose.subs a).length : Int)) ∧ ((0 : Int) ≤ x ∧ x < (↑(Rose.subs b).length : Int)) ∧ sameP n ((Rose.subs a).getD x.toNat (Rose.node (((0 : Int), (0 : Int), ()), [],
  ()) [])) ((Rose.subs b).getD x.toNat (Rose.node (((0 : Int), (0 : Int), ()), [], ()) [])) ∧ ((!true) = true → false = true) ∧ ((!true) = false → isI64 (x + (1 : Int)) ∧ I (x + (1
  : Int)) ∧ μ (x + (1 : Int)) < μ x)) ∧ (decide (x < (↑(Rose.subs a).length : Int)) = false → true = true)))))) := by kernel_rfl
end Go.Proofs.Ytdeleoaeegmhlaa
