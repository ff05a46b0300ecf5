import Derived.Test.YtdeleoaeegmhlaaMYu
import Derived.Test.YtdeleoaeegmhlaaMYp
import Derived.Test.YtdeleoaeegmhlaaMRb
namespace Go.Proofs.Ytdeleoaeegmhlaa
open Go.AM Go.PL
set_option linter.unusedVariables false
def exSp : FSpec := ⟨[], [DV, DV, .bool], fun _ => True, fun _ => (aDv, cDv, true)⟩
def hintE (f : FuncId) : Hint := ⟨fun _ => [], fun r => bif Nat.beq f 29 && Nat.beq r 4 then .all else .force, fun _ => .force, fun r => 200⟩
noncomputable def YE : Ctx := mkctx bs [(63, newCSp), (17, cutCSp)] [] hintE
noncomputable def YX : Ctx := mkctx bs [(29, exSp), (30, validVSp 10), (11, areasPSp 10), (13, homeSp 10), (24, routeSp 10), (16, movesSp 10), (20, joinCSp)] [] hintC
theorem example_nf (i : Int) : fnwp YE 38 29 exSp () = (((2 : Int), [(1 : Int)]) = ((2 : Int), [(1 : Int)]) ∧ (((aDv.fst, aDv.snd.fst, Rose.node ((aDv.snd.snd.fst.val.fst.fst,
  aDv.snd.snd.fst.val.fst.snd.fst, ()), aDv.snd.snd.fst.val.snd.fst, ()) aDv.snd.snd.fst.subs, ()), (0 : Int), (0 : Int), (0 : Int), [(2 : Int)]) = (aDv, (0 : Int), (0 : Int), (0 :
  Int), [(2 : Int)]) ∨ ((aDv.fst, aDv.snd.fst, Rose.node ((aDv.snd.snd.fst.val.fst.fst, aDv.snd.snd.fst.val.fst.snd.fst, ()), aDv.snd.snd.fst.val.snd.fst, ()) aDv.snd.snd.fst.subs,
  ()), (0 : Int), (0 : Int), (0 : Int), [(2 : Int)]) = (bDv, (1 : Int), (1 : Int), (10 : Int), [(1 : Int), (3 : Int)])) ∧ (((bDv.fst, bDv.snd.fst, Rose.node
  ((bDv.snd.snd.fst.val.fst.fst, bDv.snd.snd.fst.val.fst.snd.fst, ()), bDv.snd.snd.fst.val.snd.fst, ()) bDv.snd.snd.fst.subs, ()), (1 : Int), (1 : Int), (10 : Int), [(1 : Int), (3
  : Int)]) = (aDv, (0 : Int), (0 : Int), (0 : Int), [(2 : Int)]) ∨ ((bDv.fst, bDv.snd.fst, Rose.node ((bDv.snd.snd.fst.val.fst.fst, bDv.snd.snd.fst.val.fst.snd.fst, ()),
  bDv.snd.snd.fst.val.snd.fst, ()) bDv.snd.snd.fst.subs, ()), (1 : Int), (1 : Int), (10 : Int), [(1 : Int), (3 : Int)]) = (bDv, (1 : Int), (1 : Int), (10 : Int), [(1 : Int), (3 :
  Int)])) ∧ ((((((aDv.fst, aDv.snd.fst, Rose.node ((aDv.snd.snd.fst.val.fst.fst, aDv.snd.snd.fst.val.fst.snd.fst, ()), aDv.snd.snd.fst.val.snd.fst, ()) aDv.snd.snd.fst.subs, ()),
  (cDv.fst, cDv.snd.fst, Rose.node ((cDv.snd.snd.fst.val.fst.fst, cDv.snd.snd.fst.val.fst.snd.fst, ()), cDv.snd.snd.fst.val.snd.fst, ()) cDv.snd.snd.fst.subs, ()), true) = (aDv,
  cDv, true) ∧ ((aDv.fst, aDv.snd.fst, Rose.node ((aDv.snd.snd.fst.val.fst.fst, aDv.snd.snd.fst.val.fst.snd.fst, ()), aDv.snd.snd.fst.val.snd.fst, ()) aDv.snd.snd.fst.subs, ()),
  (cDv.fst, cDv.snd.fst, Rose.node ((cDv.snd.snd.fst.val.fst.fst, cDv.snd.snd.fst.val.fst.snd.fst, ()), cDv.snd.snd.fst.val.snd.fst, ()) cDv.snd.snd.fst.subs, ()), true) = (aDv,
  cDv, true) ∧ ((aDv.fst, aDv.snd.fst, Rose.node ((aDv.snd.snd.fst.val.fst.fst, aDv.snd.snd.fst.val.fst.snd.fst, ()), aDv.snd.snd.fst.val.snd.fst, ()) aDv.snd.snd.fst.subs, ()),
  (cDv.fst, cDv.snd.fst, Rose.node ((cDv.snd.snd.fst.val.fst.fst, cDv.snd.snd.fst.val.fst.snd.fst, ()), cDv.snd.snd.fst.val.snd.fst, ()) cDv.snd.snd.fst.subs, ()), true) = (aDv,
  cDv, true)) ∧ (((aDv.fst, aDv.snd.fst, Rose.node ((aDv.snd.snd.fst.val.fst.fst, aDv.snd.snd.fst.val.fst.snd.fst, ()), aDv.snd.snd.fst.val.snd.fst, ()) aDv.snd.snd.fst.subs, ()),
  (cDv.fst, cDv.snd.fst, Rose.node ((cDv.snd.snd.fst.val.fst.fst, cDv.snd.snd.fst.val.fst.snd.fst, ()), cDv.snd.snd.fst.val.snd.fst, ()) cDv.snd.snd.fst.subs, ()), true) = (aDv,
  cDv, true) ∧ ((aDv.fst, aDv.snd.fst, Rose.node ((aDv.snd.snd.fst.val.fst.fst, aDv.snd.snd.fst.val.fst.snd.fst, ()), aDv.snd.snd.fst.val.snd.fst, ()) aDv.snd.snd.fst.subs, ()),
  (cDv.fst, cDv.snd.fst, Rose.node ((cDv.snd.snd.fst.val.fst.fst, cDv.snd.snd.fst.val.fst.snd.fst, ()), cDv.snd.snd.fst.val.snd.fst, ()) cDv.snd.snd.fst.subs, ()), true) = (aDv,
  cDv, true)) ∧ ((aDv.fst, aDv.snd.fst, Rose.node ((aDv.snd.snd.fst.val.fst.fst, aDv.snd.snd.fst.val.fst.snd.fst, ()), aDv.snd.snd.fst.val.snd.fst, ()) aDv.snd.snd.fst.subs, ()),
  (cDv.fst, cDv.snd.fst, Rose.node ((cDv.snd.snd.fst.val.fst.fst, cDv.snd.snd.fst.val.fst.snd.fst, ()), cDv.snd.snd.fst.val.snd.fst, ()) cDv.snd.snd.fst.subs, ()), true) = (aDv,
  cDv, true)) ∧ ((((aDv.fst, aDv.snd.fst, Rose.node ((aDv.snd.snd.fst.val.fst.fst, aDv.snd.snd.fst.val.fst.snd.fst, ()), aDv.snd.snd.fst.val.snd.fst, ()) aDv.snd.snd.fst.subs, ()),
  (cDv.fst, cDv.snd.fst, Rose.node ((cDv.snd.snd.fst.val.fst.fst, cDv.snd.snd.fst.val.fst.snd.fst, ()), cDv.snd.snd.fst.val.snd.fst, ()) cDv.snd.snd.fst.subs, ()), true) = (aDv,
  cDv, true) ∧ ((aDv.fst, aDv.snd.fst, Rose.node ((aDv.snd.snd.fst.val.fst.fst, aDv.snd.snd.fst.val.fst.snd.fst, ()), aDv.snd.snd.fst.val.snd.fst, ()) aDv.snd.snd.fst.subs, ()),
  (cDv.fst, cDv.snd.fst, Rose.node ((cDv.snd.snd.fst.val.fst.fst, cDv.snd.snd.fst.val.fst.snd.fst, ()), cDv.snd.snd.fst.val.snd.fst, ()) cDv.snd.snd.fst.subs, ()), true) = (aDv,
  cDv, true)) ∧ ((aDv.fst, aDv.snd.fst, Rose.node ((aDv.snd.snd.fst.val.fst.fst, aDv.snd.snd.fst.val.fst.snd.fst, ()), aDv.snd.snd.fst.val.snd.fst, ()) aDv.snd.snd.fst.subs, ()),
  (cDv.fst, cDv.snd.fst, Rose.node ((cDv.snd.snd.fst.val.fst.fst, cDv.snd.snd.fst.val.fst.snd.fst, ()), cDv.snd.snd.fst.val.snd.fst, ()) cDv.snd.snd.fst.subs, ()), true) = (aDv,
  cDv, true)) ∧ ((aDv.fst, aDv.snd.fst, Rose.node ((aDv.snd.snd.fst.val.fst.fst, aDv.snd.snd.fst.val.fst.snd.fst, ()), aDv.snd.snd.fst.val.snd.fst, ()) aDv.snd.snd.fst.subs, ()),
  (cDv.fst, cDv.snd.fst, Rose.node ((cDv.snd.snd.fst.val.fst.fst, cDv.snd.snd.fst.val.fst.snd.fst, ()), cDv.snd.snd.fst.val.snd.fst, ()) cDv.snd.snd.fst.subs, ()), true) = (aDv,
  cDv, true)) ∧ (((((aDv.fst, aDv.snd.fst, Rose.node ((aDv.snd.snd.fst.val.fst.fst, aDv.snd.snd.fst.val.fst.snd.fst, ()), aDv.snd.snd.fst.val.snd.fst, ()) aDv.snd.snd.fst.subs,
  ()), (cDv.fst, cDv.snd.fst, Rose.node ((cDv.snd.snd.fst.val.fst.fst, cDv.snd.snd.fst.val.fst.snd.fst, ()), cDv.snd.snd.fst.val.snd.fst, ()) cDv.snd.snd.fst.subs, ()), true) =
  (aDv, cDv, true) ∧ ((aDv.fst, aDv.snd.fst, Rose.node ((aDv.snd.snd.fst.val.fst.fst, aDv.snd.snd.fst.val.fst.snd.fst, ()), aDv.snd.snd.fst.val.snd.fst, ()) aDv.snd.snd.fst.subs,
  ()), (cDv.fst, cDv.snd.fst, Rose.node ((cDv.snd.snd.fst.val.fst.fst, cDv.snd.snd.fst.val.fst.snd.fst, ()), cDv.snd.snd.fst.val.snd.fst, ()) cDv.snd.snd.fst.subs, ()), true) =
  (aDv, cDv, true) ∧ ((aDv.fst, aDv.snd.fst, Rose.node ((aDv.snd.snd.fst.val.fst.fst, aDv.snd.snd.fst.val.fst.snd.fst, ()), aDv.snd.snd.fst.val.snd.fst, ()) aDv.snd.snd.fst.subs,
  ()), (cDv.fst, cDv.snd.fst, Rose.node ((cDv.snd.snd.fst.val.fst.fst, cDv.snd.snd.fst.val.fst.snd.fst, ()), cDv.snd.snd.fst.val.snd.fst, ()) cDv.snd.snd.fst.subs, ()), true) =
  (aDv, cDv, true)) ∧ (((aDv.fst, aDv.snd.fst, Rose.node ((aDv.snd.snd.fst.val.fst.fst, aDv.snd.snd.fst.val.fst.snd.fst, ()), aDv.snd.snd.fst.val.snd.fst, ()) aDv.snd.snd.fst.subs,
  ()), (cDv.fst, cDv.snd.fst, Rose.node ((cDv.snd.snd.fst.val.fst.fst, cDv.snd.snd.fst.val.fst.snd.fst, ()), cDv.snd.snd.fst.val.snd.fst, ()) cDv.snd.snd.fst.subs, ()), true) =
  (aDv, cDv, true) ∧ ((aDv.fst, aDv.snd.fst, Rose.node ((aDv.snd.snd.fst.val.fst.fst, aDv.snd.snd.fst.val.fst.snd.fst, ()), aDv.snd.snd.fst.val.snd.fst, ()) aDv.snd.snd.fst.subs,
  ()), (cDv.fst, cDv.snd.fst, Rose.node ((cDv.snd.snd.fst.val.fst.fst, cDv.snd.snd.fst.val.fst.snd.fst, ()), cDv.snd.snd.fst.val.snd.fst, ()) cDv.snd.snd.fst.subs, ()), true) =
  (aDv, cDv, true)) ∧ ((aDv.fst, aDv.snd.fst, Rose.node ((aDv.snd.snd.fst.val.fst.fst, aDv.snd.snd.fst.val.fst.snd.fst, ()), aDv.snd.snd.fst.val.snd.fst, ()) aDv.snd.snd.fst.subs,
  ()), (cDv.fst, cDv.snd.fst, Rose.node ((cDv.snd.snd.fst.val.fst.fst, cDv.snd.snd.fst.val.fst.snd.fst, ()), cDv.snd.snd.fst.val.snd.fst, ()) cDv.snd.snd.fst.subs, ()), true) =
  (aDv, cDv, true)) ∧ ((((aDv.fst, aDv.snd.fst, Rose.node ((aDv.snd.snd.fst.val.fst.fst, aDv.snd.snd.fst.val.fst.snd.fst, ()), aDv.snd.snd.fst.val.snd.fst, ())
  aDv.snd.snd.fst.subs, ()), (cDv.fst, cDv.snd.fst, Rose.node ((cDv.snd.snd.fst.val.fst.fst, cDv.snd.snd.fst.val.fst.snd.fst, ()), cDv.snd.snd.fst.val.snd.fst, ())
  cDv.snd.snd.fst.subs, ()), true) = (aDv, cDv, true) ∧ ((aDv.fst, aDv.snd.fst, Rose.node ((aDv.snd.snd.fst.val.fst.fst, aDv.snd.snd.fst.val.fst.snd.fst, ()),
  aDv.snd.snd.fst.val.snd.fst, ()) aDv.snd.snd.fst.subs, ()), (cDv.fst, cDv.snd.fst, Rose.node ((cDv.snd.snd.fst.val.fst.fst, cDv.snd.snd.fst.val.fst.snd.fst, ()),
  cDv.snd.snd.fst.val.snd.fst, ()) cDv.snd.snd.fst.subs, ()), true) = (aDv, cDv, true)) ∧ ((aDv.fst, aDv.snd.fst, Rose.node ((aDv.snd.snd.fst.val.fst.fst,
  aDv.snd.snd.fst.val.fst.snd.fst, ()), aDv.snd.snd.fst.val.snd.fst, ()) aDv.snd.snd.fst.subs, ()), (cDv.fst, cDv.snd.fst, Rose.node ((cDv.snd.snd.fst.val.fst.fst,
  cDv.snd.snd.fst.val.fst.snd.fst, ()), cDv.snd.snd.fst.val.snd.fst, ()) cDv.snd.snd.fst.subs, ()), true) = (aDv, cDv, true)) ∧ ((aDv.fst, aDv.snd.fst, Rose.node
  ((aDv.snd.snd.fst.val.fst.fst, aDv.snd.snd.fst.val.fst.snd.fst, ()), aDv.snd.snd.fst.val.snd.fst, ()) aDv.snd.snd.fst.subs, ()), (cDv.fst, cDv.snd.fst, Rose.node
  ((cDv.snd.snd.fst.val.fst.fst, cDv.snd.snd.fst.val.fst.snd.fst, ()), cDv.snd.snd.fst.val.snd.fst, ()) cDv.snd.snd.fst.subs, ()), true) = (aDv, cDv, true)) ∧ (((((aDv.fst,
  aDv.snd.fst, Rose.node ((aDv.snd.snd.fst.val.fst.fst, aDv.snd.snd.fst.val.fst.snd.fst, ()), aDv.snd.snd.fst.val.snd.fst, ()) aDv.snd.snd.fst.subs, ()), (cDv.fst, cDv.snd.fst,
  Rose.node ((cDv.snd.snd.fst.val.fst.fst, cDv.snd.snd.fst.val.fst.snd.fst, ()), cDv.snd.snd.fst.val.snd.fst, ()) cDv.snd.snd.fst.subs, ()), true) = (aDv, cDv, true) ∧ ((aDv.fst,
  aDv.snd.fst, Rose.node ((aDv.snd.snd.fst.val.fst.fst, aDv.snd.snd.fst.val.fst.snd.fst, ()), aDv.snd.snd.fst.val.snd.fst, ()) aDv.snd.snd.fst.subs, ()), (cDv.fst, cDv.snd.fst,
  Rose.node ((cDv.snd.snd.fst.val.fst.fst, cDv.snd.snd.fst.val.fst.snd.fst, ()), cDv.snd.snd.fst.val.snd.fst, ()) cDv.snd.snd.fst.subs, ()), true) = (aDv, cDv, true) ∧ ((aDv.fst,
  aDv.snd.fst, Rose.node ((aDv.snd.snd.fst.val.fst.fst, aDv.snd.snd.fst.val.fst.snd.fst, ()), aDv.snd.snd.fst.val.snd.fst, ()) aDv.snd.snd.fst.subs, ()), (cDv.fst, cDv.snd.fst,
  Rose.node ((cDv.snd.snd.fst.val.fst.fst, cDv.snd.snd.fst.val.fst.snd.fst, ()), cDv.snd.snd.fst.val.snd.fst, ()) cDv.snd.snd.fst.subs, ()), true) = (aDv, cDv, true)) ∧ (((aDv.fst,
  aDv.snd.fst, Rose.node ((aDv.snd.snd.fst.val.fst.fst, aDv.snd.snd.fst.val.fst.snd.fst, ()), aDv.snd.snd.fst.val.snd.fst, ()) aDv.snd.snd.fst.subs, ()), (cDv.fst, cDv.snd.fst,
  Rose.node ((cDv.snd.snd.fst.val.fst.fst, cDv.snd.snd.fst.val.fst.snd.fst, ()), cDv.snd.snd.fst.val.snd.fst, ()) cDv.snd.snd.fst.subs, ()), true) = (aDv, cDv, true) ∧ ((aDv.fst,
  aDv.snd.fst, Rose.node ((aDv.snd.snd.fst.val.fst.fst, aDv.snd.snd.fst.val.fst.snd.fst, ()), aDv.snd.snd.fst.val.snd.fst, ()) aDv.snd.snd.fst.subs, ()), (cDv.fst, cDv.snd.fst,
  Rose.node ((cDv.snd.snd.fst.val.fst.fst, cDv.snd.snd.fst.val.fst.snd.fst, ()), cDv.snd.snd.fst.val.snd.fst, ()) cDv.snd.snd.fst.subs, ()), true) = (aDv, cDv, true)) ∧ ((aDv.fst,
  aDv.snd.fst, Rose.node ((aDv.snd.snd.fst.val.fst.fst, aDv.snd.snd.fst.val.fst.snd.fst, ()), aDv.snd.snd.fst.val.snd.fst, ()) aDv.snd.snd.fst.subs, ()), (cDv.fst, cDv.snd.fst,
  Rose.node ((cDv.snd.snd.fst.val.fst.fst, cDv.snd.snd.fst.val.fst.snd.fst, ()), cDv.snd.snd.fst.val.snd.fst, ()) cDv.snd.snd.fst.subs, ()), true) = (aDv, cDv, true)) ∧
  ((((aDv.fst, aDv.snd.fst, Rose.node ((aDv.snd.snd.fst.val.fst.fst, aDv.snd.snd.fst.val.fst.snd.fst, ()), aDv.snd.snd.fst.val.snd.fst, ()) aDv.snd.snd.fst.subs, ()), (cDv.fst,
  cDv.snd.fst, Rose.node ((cDv.snd.snd.fst.val.fst.fst, cDv.snd.snd.fst.val.fst.snd.fst, ()), cDv.snd.snd.fst.val.snd.fst, ()) cDv.snd.snd.fst.subs, ()), true) = (aDv, cDv, true) ∧
  ((aDv.fst, aDv.snd.fst, Rose.node ((aDv.snd.snd.fst.val.fst.fst, aDv.snd.snd.fst.val.fst.snd.fst, ()), aDv.snd.snd.fst.val.snd.fst, ()) aDv.snd.snd.fst.subs, ()), (cDv.fst,
  cDv.snd.fst, Rose.node ((cDv.snd.snd.fst.val.fst.fst, cDv.snd.snd.fst.val.fst.snd.fst, ()), cDv.snd.snd.fst.val.snd.fst, ()) cDv.snd.snd.fst.subs, ()), true) = (aDv, cDv, true))
  ∧ ((aDv.fst, aDv.snd.fst, Rose.node ((aDv.snd.snd.fst.val.fst.fst, aDv.snd.snd.fst.val.fst.snd.fst, ()), aDv.snd.snd.fst.val.snd.fst, ()) aDv.snd.snd.fst.subs, ()), (cDv.fst,
  cDv.snd.fst, Rose.node ((cDv.snd.snd.fst.val.fst.fst, cDv.snd.snd.fst.val.fst.snd.fst, ()), cDv.snd.snd.fst.val.snd.fst, ()) cDv.snd.snd.fst.subs, ()), true) = (aDv, cDv, true))
  ∧ ((aDv.fst, aDv.snd.fst, Rose.node ((aDv.snd.snd.fst.val.fst.fst, aDv.snd.snd.fst.val.fst.snd.fst, ()), aDv.snd.snd.fst.val.snd.fst, ()) aDv.snd.snd.fst.subs, ()), (cDv.fst,
  cDv.snd.fst, Rose.node ((cDv.snd.snd.fst.val.fst.fst, cDv.snd.snd.fst.val.fst.snd.fst, ()), cDv.snd.snd.fst.val.snd.fst, ()) cDv.snd.snd.fst.subs, ()), true) = (aDv, cDv, true))
  ∧ (((((aDv.fst, aDv.snd.fst, Rose.node ((aDv.snd.snd.fst.val.fst.fst, aDv.snd.snd.fst.val.fst.snd.fst, ()), aDv.snd.snd.fst.val.snd.fst, ()) aDv.snd.snd.fst.subs, ()), (cDv.fst,
  cDv.snd.fst, Rose.node ((cDv.snd.snd.fst.val.fst.fst, cDv.snd.snd.fst.val.fst.snd.fst, ()), cDv.snd.snd.fst.val.snd.fst, ()) cDv.snd.snd.fst.subs, ()), true) = (aDv, cDv, true) ∧
  ((aDv.fst, aDv.snd.fst, Rose.node ((aDv.snd.snd.fst.val.fst.fst, aDv.snd.snd.fst.val.fst.snd.fst, ()), aDv.snd.snd.fst.val.snd.fst, ()) aDv.snd.snd.fst.subs, ()), (cDv.fst,
  cDv.snd.fst, Rose.node ((cDv.snd.snd.fst.val.fst.fst, cDv.snd.snd.fst.val.fst.snd.fst, ()), cDv.snd.snd.fst.val.snd.fst, ()) cDv.snd.snd.fst.subs, ()), true) = (aDv, cDv, true) ∧
  ((aDv.fst, aDv.snd.fst, Rose.node ((aDv.snd.snd.fst.val.fst.fst, aDv.snd.snd.fst.val.fst.snd.fst, ()), aDv.snd.snd.fst.val.snd.fst, ()) aDv.snd.snd.fst.subs, ()), (cDv.fst,
  cDv.snd.fst, Rose.node ((cDv.snd.snd.fst.val.fst.fst, cDv.snd.snd.fst.val.fst.snd.fst, ()), cDv.snd.snd.fst.val.snd.fst, ()) cDv.snd.snd.fst.subs, ()), true) = (aDv, cDv, true))
  ∧ (((aDv.fst, aDv.snd.fst, Rose.node ((aDv.snd.snd.fst.val.fst.fst, aDv.snd.snd.fst.val.fst.snd.fst, ()), aDv.snd.snd.fst.val.snd.fst, ()) aDv.snd.snd.fst.subs, ()), (cDv.fst,
  cDv.snd.fst, Rose.node ((cDv.snd.snd.fst.val.fst.fst, cDv.snd.snd.fst.val.fst.snd.fst, ()), cDv.snd.snd.fst.val.snd.fst, ()) cDv.snd.snd.fst.subs, ()), true) = (aDv, cDv, true) ∧
  ((aDv.fst, aDv.snd.fst, Rose.node ((aDv.snd.snd.fst.val.fst.fst, aDv.snd.snd.fst.val.fst.snd.fst, ()), aDv.snd.snd.fst.val.snd.fst, ()) aDv.snd.snd.fst.subs, ()), (cDv.fst,
  cDv.snd.fst, Rose.node ((cDv.snd.snd.fst.val.fst.fst, cDv.snd.snd.fst.val.fst.snd.fst, ()), cDv.snd.snd.fst.val.snd.fst, ()) cDv.snd.snd.fst.subs, ()), true) = (aDv, cDv, true))
  ∧ ((aDv.fst, aDv.snd.fst, Rose.node ((aDv.snd.snd.fst.val.fst.fst, aDv.snd.snd.fst.val.fst.snd.fst, ()), aDv.snd.snd.fst.val.snd.fst, ()) aDv.snd.snd.fst.subs, ()), (cDv.fst,
  cDv.snd.fst, Rose.node ((cDv.snd.snd.fst.val.fst.fst, cDv.snd.snd.fst.val.fst.snd.fst, ()), cDv.snd.snd.fst.val.snd.fst, ()) cDv.snd.snd.fst.subs, ()), true) = (aDv, cDv, true))
  ∧ ((((aDv.fst, aDv.snd.fst, Rose.node ((aDv.snd.snd.fst.val.fst.fst, aDv.snd.snd.fst.val.fst.snd.fst, ()), aDv.snd.snd.fst.val.snd.fst, ()) aDv.snd.snd.fst.subs, ()), (cDv.fst,
  cDv.snd.fst, Rose.node ((cDv.snd.snd.fst.val.fst.fst, cDv.snd.snd.fst.val.fst.snd.fst, ()), cDv.snd.snd.fst.val.snd.fst, ()) cDv.snd.snd.fst.subs, ()), true) = (aDv, cDv, true) ∧
  ((aDv.fst, aDv.snd.fst, Rose.node ((aDv.snd.snd.fst.val.fst.fst, aDv.snd.snd.fst.val.fst.snd.fst, ()), aDv.snd.snd.fst.val.snd.fst, ()) aDv.snd.snd.fst.subs, ()), (cDv.fst,
  cDv.snd.fst, Rose.node ((cDv.snd.snd.fst.val.fst.fst, cDv.snd.snd.fst.val.fst.snd.fst, ()), cDv.snd.snd.fst.val.snd.fst, ()) cDv.snd.snd.fst.subs, ()), true) = (aDv, cDv, true))
  ∧ ((aDv.fst, aDv.snd.fst, Rose.node ((aDv.snd.snd.fst.val.fst.fst, aDv.snd.snd.fst.val.fst.snd.fst, ()), aDv.snd.snd.fst.val.snd.fst, ()) aDv.snd.snd.fst.subs, ()), (cDv.fst,
  cDv.snd.fst, Rose.node ((cDv.snd.snd.fst.val.fst.fst, cDv.snd.snd.fst.val.fst.snd.fst, ()), cDv.snd.snd.fst.val.snd.fst, ()) cDv.snd.snd.fst.subs, ()), true) = (aDv, cDv, true))
  ∧ ((aDv.fst, aDv.snd.fst, Rose.node ((aDv.snd.snd.fst.val.fst.fst, aDv.snd.snd.fst.val.fst.snd.fst, ()), aDv.snd.snd.fst.val.snd.fst, ()) aDv.snd.snd.fst.subs, ()), (cDv.fst,
  cDv.snd.fst, Rose.node ((cDv.snd.snd.fst.val.fst.fst, cDv.snd.snd.fst.val.fst.snd.fst, ()), cDv.snd.snd.fst.val.snd.fst, ()) cDv.snd.snd.fst.subs, ()), true) = (aDv, cDv, true))
  ∧ (((((aDv.fst, aDv.snd.fst, Rose.node ((aDv.snd.snd.fst.val.fst.fst, aDv.snd.snd.fst.val.fst.snd.fst, ()), aDv.snd.snd.fst.val.snd.fst, ()) aDv.snd.snd.fst.subs, ()), (cDv.fst,
  cDv.snd.fst, Rose.node ((cDv.snd.snd.fst.val.fst.fst, cDv.snd.snd.fst.val.fst.snd.fst, ()), cDv.snd.snd.fst.val.snd.fst, ()) cDv.snd.snd.fst.subs, ()), true) = (aDv, cDv, true) ∧
  ((aDv.fst, aDv.snd.fst, Rose.node ((aDv.snd.snd.fst.val.fst.fst, aDv.snd.snd.fst.val.fst.snd.fst, ()), aDv.snd.snd.fst.val.snd.fst, ()) aDv.snd.snd.fst.subs, ()), (cDv.fst,
  cDv.snd.fst, Rose.node ((cDv.snd.snd.fst.val.fst.fst, cDv.snd.snd.fst.val.fst.snd.fst, ()), cDv.snd.snd.fst.val.snd.fst, ()) cDv.snd.snd.fst.subs, ()), true) = (aDv, cDv, true) ∧
  ((aDv.fst, aDv.snd.fst, Rose.node ((aDv.snd.snd.fst.val.fst.fst, aDv.snd.snd.fst.val.fst.snd.fst, ()), aDv.snd.snd.fst.val.snd.fst, ()) aDv.snd.snd.fst.subs, ()), (cDv.fst,
  cDv.snd.fst, Rose.node ((cDv.snd.snd.fst.val.fst.fst, cDv.snd.snd.fst.val.fst.snd.fst, ()), cDv.snd.snd.fst.val.snd.fst, ()) cDv.snd.snd.fst.subs, ()), true) = (aDv, cDv, true))
  ∧ (((aDv.fst, aDv.snd.fst, Rose.node ((aDv.snd.snd.fst.val.fst.fst, aDv.snd.snd.fst.val.fst.snd.fst, ()), aDv.snd.snd.fst.val.snd.fst, ()) aDv.snd.snd.fst.subs, ()), (cDv.fst,
  cDv.snd.fst, Rose.node ((cDv.snd.snd.fst.val.fst.fst, cDv.snd.snd.fst.val.fst.snd.fst, ()), cDv.snd.snd.fst.val.snd.fst, ()) cDv.snd.snd.fst.subs, ()), true) = (aDv, cDv, true) ∧
  ((aDv.fst, aDv.snd.fst, Rose.node ((aDv.snd.snd.fst.val.fst.fst, aDv.snd.snd.fst.val.fst.snd.fst, ()), aDv.snd.snd.fst.val.snd.fst, ()) aDv.snd.snd.fst.subs, ()), (cDv.fst,
  cDv.snd.fst, Rose.node ((cDv.snd.snd.fst.val.fst.fst, cDv.snd.snd.fst.val.fst.snd.fst, ()), cDv.snd.snd.fst.val.snd.fst, ()) cDv.snd.snd.fst.subs, ()), true) = (aDv, cDv, true))
  ∧ ((aDv.fst, aDv.snd.fst, Rose.node ((aDv.snd.snd.fst.val.fst.fst, aDv.snd.snd.fst.val.fst.snd.fst, ()), aDv.snd.snd.fst.val.snd.fst, ()) aDv.snd.snd.fst.subs, ()), (cDv.fst,
  cDv.snd.fst, Rose.node ((cDv.snd.snd.fst.val.fst.fst, cDv.snd.snd.fst.val.fst.snd.fst, ()), cDv.snd.snd.fst.val.snd.fst, ()) cDv.snd.snd.fst.subs, ()), true) = (aDv, cDv, true))
  ∧ ((((aDv.fst, aDv.snd.fst, Rose.node ((aDv.snd.snd.fst.val.fst.fst, aDv.snd.snd.fst.val.fst.snd.fst, ()), aDv.snd.snd.fst.val.snd.fst, ()) aDv.snd.snd.fst.subs, ()), (cDv.fst,
  cDv.snd.fst, Rose.node ((cDv.snd.snd.fst.val.fst.fst, cDv.snd.snd.fst.val.fst.snd.fst, ()), cDv.snd.snd.fst.val.snd.fst, ()) cDv.snd.snd.fst.subs, ()), true) = (aDv, cDv, true) ∧
  ((aDv.fst, aDv.snd.fst, Rose.node ((aDv.snd.snd.fst.val.fst.fst, aDv.snd.snd.fst.val.fst.snd.fst, ()), aDv.snd.snd.fst.val.snd.fst, ()) aDv.snd.snd.fst.subs, ()), (cDv.fst,
  cDv.snd.fst, Rose.node ((cDv.snd.snd.fst.val.fst.fst, cDv.snd.snd.fst.val.fst.snd.fst, ()), cDv.snd.snd.fst.val.snd.fst, ()) cDv.snd.snd.fst.subs, ()), true) = (aDv, cDv, true) ∧
  ((aDv.fst, aDv.snd.fst, Rose.node ((aDv.snd.snd.fst.val.fst.fst, aDv.snd.snd.fst.val.fst.snd.fst, ()), aDv.snd.snd.fst.val.snd.fst, ()) aDv.snd.snd.fst.subs, ()), (cDv.fst,
  cDv.snd.fst, Rose.node ((cDv.snd.snd.fst.val.fst.fst, cDv.snd.snd.fst.val.fst.snd.fst, ()), cDv.snd.snd.fst.val.snd.fst, ()) cDv.snd.snd.fst.subs, ()), true) = (aDv, cDv, true))
  ∧ (((aDv.fst, aDv.snd.fst, Rose.node ((aDv.snd.snd.fst.val.fst.fst, aDv.snd.snd.fst.val.fst.snd.fst, ()), aDv.snd.snd.fst.val.snd.fst, ()) aDv.snd.snd.fst.subs, ()), (cDv.fst,
  cDv.snd.fst, Rose.node ((cDv.snd.snd.fst.val.fst.fst, cDv.snd.snd.fst.val.fst.snd.fst, ()), cDv.snd.snd.fst.val.snd.fst, ()) cDv.snd.snd.fst.subs, ()), true) = (aDv, cDv, true) ∧
  ((aDv.fst, aDv.snd.fst, Rose.node ((aDv.snd.snd.fst.val.fst.fst, aDv.snd.snd.fst.val.fst.snd.fst, ()), aDv.snd.snd.fst.val.snd.fst, ()) aDv.snd.snd.fst.subs, ()), (cDv.fst,
  cDv.snd.fst, Rose.node ((cDv.snd.snd.fst.val.fst.fst, cDv.snd.snd.fst.val.fst.snd.fst, ()), cDv.snd.snd.fst.val.snd.fst, ()) cDv.snd.snd.fst.subs, ()), true) = (aDv, cDv, true))
  ∧ (((aDv.fst, aDv.snd.fst, Rose.node ((aDv.snd.snd.fst.val.fst.fst, aDv.snd.snd.fst.val.fst.snd.fst, ()), aDv.snd.snd.fst.val.snd.fst, ()) aDv.snd.snd.fst.subs, ()), (cDv.fst,
  cDv.snd.fst, Rose.node ((cDv.snd.snd.fst.val.fst.fst, cDv.snd.snd.fst.val.fst.snd.fst, ()), cDv.snd.snd.fst.val.snd.fst, ()) cDv.snd.snd.fst.subs, ()), true) = (aDv, cDv, true) ∧
  ((aDv.fst, aDv.snd.fst, Rose.node ((aDv.snd.snd.fst.val.fst.fst, aDv.snd.snd.fst.val.fst.snd.fst, ()), aDv.snd.snd.fst.val.snd.fst, ()) aDv.snd.snd.fst.subs, ()), (cDv.fst,
  cDv.snd.fst, Rose.node ((cDv.snd.snd.fst.val.fst.fst, cDv.snd.snd.fst.val.fst.snd.fst, ()), cDv.snd.snd.fst.val.snd.fst, ()) cDv.snd.snd.fst.subs, ()), true) = (aDv, cDv, true))
  ∧ ((aDv.fst, aDv.snd.fst, Rose.node ((aDv.snd.snd.fst.val.fst.fst, aDv.snd.snd.fst.val.fst.snd.fst, ()), aDv.snd.snd.fst.val.snd.fst, ()) aDv.snd.snd.fst.subs, ()), (cDv.fst,
  cDv.snd.fst, Rose.node ((cDv.snd.snd.fst.val.fst.fst, cDv.snd.snd.fst.val.fst.snd.fst, ()), cDv.snd.snd.fst.val.snd.fst, ()) cDv.snd.snd.fst.subs, ()), true) = (aDv, cDv, true))
  ∧ ((((aDv.fst, aDv.snd.fst, Rose.node ((aDv.snd.snd.fst.val.fst.fst, aDv.snd.snd.fst.val.fst.snd.fst, ()), aDv.snd.snd.fst.val.snd.fst, ()) aDv.snd.snd.fst.subs, ()), (cDv.fst,
  cDv.snd.fst, Rose.node ((cDv.snd.snd.fst.val.fst.fst, cDv.snd.snd.fst.val.fst.snd.fst, ()), cDv.snd.snd.fst.val.snd.fst, ()) cDv.snd.snd.fst.subs, ()), true) = (aDv, cDv, true) ∧
  ((aDv.fst, aDv.snd.fst, Rose.node ((aDv.snd.snd.fst.val.fst.fst, aDv.snd.snd.fst.val.fst.snd.fst, ()), aDv.snd.snd.fst.val.snd.fst, ()) aDv.snd.snd.fst.subs, ()), (cDv.fst,
  cDv.snd.fst, Rose.node ((cDv.snd.snd.fst.val.fst.fst, cDv.snd.snd.fst.val.fst.snd.fst, ()), cDv.snd.snd.fst.val.snd.fst, ()) cDv.snd.snd.fst.subs, ()), true) = (aDv, cDv, true))
  ∧ ((aDv.fst, aDv.snd.fst, Rose.node ((aDv.snd.snd.fst.val.fst.fst, aDv.snd.snd.fst.val.fst.snd.fst, ()), aDv.snd.snd.fst.val.snd.fst, ()) aDv.snd.snd.fst.subs, ()), (cDv.fst,
  cDv.snd.fst, Rose.node ((cDv.snd.snd.fst.val.fst.fst, cDv.snd.snd.fst.val.fst.snd.fst, ()), cDv.snd.snd.fst.val.snd.fst, ()) cDv.snd.snd.fst.subs, ()), true) = (aDv, cDv, true))
  ∧ (((aDv.fst, aDv.snd.fst, Rose.node ((aDv.snd.snd.fst.val.fst.fst, aDv.snd.snd.fst.val.fst.snd.fst, ()), aDv.snd.snd.fst.val.snd.fst, ()) aDv.snd.snd.fst.subs, ()), (cDv.fst,
  cDv.snd.fst, Rose.node ((cDv.snd.snd.fst.val.fst.fst, cDv.snd.snd.fst.val.fst.snd.fst, ()), cDv.snd.snd.fst.val.snd.fst, ()) cDv.snd.snd.fst.subs, ()), true) = (aDv, cDv, true) ∧
  ((aDv.fst, aDv.snd.fst, Rose.node ((aDv.snd.snd.fst.val.fst.fst, aDv.snd.snd.fst.val.fst.snd.fst, ()), aDv.snd.snd.fst.val.snd.fst, ()) aDv.snd.snd.fst.subs, ()), (cDv.fst,
  cDv.snd.fst, Rose.node ((cDv.snd.snd.fst.val.fst.fst, cDv.snd.snd.fst.val.fst.snd.fst, ()), cDv.snd.snd.fst.val.snd.fst, ()) cDv.snd.snd.fst.subs, ()), true) = (aDv, cDv, true))
  ∧ ((aDv.fst, aDv.snd.fst, Rose.node ((aDv.snd.snd.fst.val.fst.fst, aDv.snd.snd.fst.val.fst.snd.fst, ()), aDv.snd.snd.fst.val.snd.fst, ()) aDv.snd.snd.fst.subs, ()), (cDv.fst,
  cDv.snd.fst, Rose.node ((cDv.snd.snd.fst.val.fst.fst, cDv.snd.snd.fst.val.fst.snd.fst, ()), cDv.snd.snd.fst.val.snd.fst, ()) cDv.snd.snd.fst.subs, ()), true) = (aDv, cDv, true))
  ∧ (((((aDv.fst, aDv.snd.fst, Rose.node ((aDv.snd.snd.fst.val.fst.fst, aDv.snd.snd.fst.val.fst.snd.fst, ()), aDv.snd.snd.fst.val.snd.fst, ()) aDv.snd.snd.fst.subs, ()), (cDv.fst,
  cDv.snd.fst, Rose.node ((cDv.snd.snd.fst.val.fst.fst, cDv.snd.snd.fst.val.fst.snd.fst, ()), cDv.snd.snd.fst.val.snd.fst, ()) cDv.snd.snd.fst.subs, ()), true) = (aDv, cDv, true) ∧
  ((aDv.fst, aDv.snd.fst, Rose.node ((aDv.snd.snd.fst.val.fst.fst, aDv.snd.snd.fst.val.fst.snd.fst, ()), aDv.snd.snd.fst.val.snd.fst, ()) aDv.snd.snd.fst.subs, ()), (cDv.fst,
  cDv.snd.fst, Rose.node ((cDv.snd.snd.fst.val.fst.fst, cDv.snd.snd.fst.val.fst.snd.fst, ()), cDv.snd.snd.fst.val.snd.fst, ()) cDv.snd.snd.fst.subs, ()), true) = (aDv, cDv, true))
  ∧ ((aDv.fst, aDv.snd.fst, Rose.node ((aDv.snd.snd.fst.val.fst.fst, aDv.snd.snd.fst.val.fst.snd.fst, ()), aDv.snd.snd.fst.val.snd.fst, ()) aDv.snd.snd.fst.subs, ()), (cDv.fst,
  cDv.snd.fst, Rose.node ((cDv.snd.snd.fst.val.fst.fst, cDv.snd.snd.fst.val.fst.snd.fst, ()), cDv.snd.snd.fst.val.snd.fst, ()) cDv.snd.snd.fst.subs, ()), true) = (aDv, cDv, true))
  ∧ ((aDv.fst, aDv.snd.fst, Rose.node ((aDv.snd.snd.fst.val.fst.fst, aDv.snd.snd.fst.val.fst.snd.fst, ()), aDv.snd.snd.fst.val.snd.fst, ()) aDv.snd.snd.fst.subs, ()), (cDv.fst,
  cDv.snd.fst, Rose.node ((cDv.snd.snd.fst.val.fst.fst, cDv.snd.snd.fst.val.fst.snd.fst, ()), cDv.snd.snd.fst.val.snd.fst, ()) cDv.snd.snd.fst.subs, ()), true) = (aDv, cDv, true))
  ∧ ((((aDv.fst, aDv.snd.fst, Rose.node ((aDv.snd.snd.fst.val.fst.fst, aDv.snd.snd.fst.val.fst.snd.fst, ()), aDv.snd.snd.fst.val.snd.fst, ()) aDv.snd.snd.fst.subs, ()), (cDv.fst,
  cDv.snd.fst, Rose.node ((cDv.snd.snd.fst.val.fst.fst, cDv.snd.snd.fst.val.fst.snd.fst, ()), cDv.snd.snd.fst.val.snd.fst, ()) cDv.snd.snd.fst.subs, ()), true) = (aDv, cDv, true) ∧
  ((aDv.fst, aDv.snd.fst, Rose.node ((aDv.snd.snd.fst.val.fst.fst, aDv.snd.snd.fst.val.fst.snd.fst, ()), aDv.snd.snd.fst.val.snd.fst, ()) aDv.snd.snd.fst.subs, ()), (cDv.fst,
  cDv.snd.fst, Rose.node ((cDv.snd.snd.fst.val.fst.fst, cDv.snd.snd.fst.val.fst.snd.fst, ()), cDv.snd.snd.fst.val.snd.fst, ()) cDv.snd.snd.fst.subs, ()), true) = (aDv, cDv, true))
  ∧ ((aDv.fst, aDv.snd.fst, Rose.node ((aDv.snd.snd.fst.val.fst.fst, aDv.snd.snd.fst.val.fst.snd.fst, ()), aDv.snd.snd.fst.val.snd.fst, ()) aDv.snd.snd.fst.subs, ()), (cDv.fst,
  cDv.snd.fst, Rose.node ((cDv.snd.snd.fst.val.fst.fst, cDv.snd.snd.fst.val.fst.snd.fst, ()), cDv.snd.snd.fst.val.snd.fst, ()) cDv.snd.snd.fst.subs, ()), true) = (aDv, cDv, true))
  ∧ (((aDv.fst, aDv.snd.fst, Rose.node ((aDv.snd.snd.fst.val.fst.fst, aDv.snd.snd.fst.val.fst.snd.fst, ()), aDv.snd.snd.fst.val.snd.fst, ()) aDv.snd.snd.fst.subs, ()), (cDv.fst,
  cDv.snd.fst, Rose.node ((cDv.snd.snd.fst.val.fst.fst, cDv.snd.snd.fst.val.fst.snd.fst, ()), cDv.snd.snd.fst.val.snd.fst, ()) cDv.snd.snd.fst.subs, ()), true) = (aDv, cDv, true) ∧
  ((aDv.fst, aDv.snd.fst, Rose.node ((aDv.snd.snd.fst.val.fst.fst, aDv.snd.snd.fst.val.fst.snd.fst, ()), aDv.snd.snd.fst.val.snd.fst, ()) aDv.snd.snd.fst.subs, ()), (cDv.fst,
  cDv.snd.fst, Rose.node ((cDv.snd.snd.fst.val.fst.fst, cDv.snd.snd.fst.val.fst.snd.fst, ()), cDv.snd.snd.fst.val.snd.fst, ()) cDv.snd.snd.fst.subs, ()), true) = (aDv, cDv, true))
  ∧ ((aDv.fst, aDv.snd.fst, Rose.node ((aDv.snd.snd.fst.val.fst.fst, aDv.snd.snd.fst.val.fst.snd.fst, ()), aDv.snd.snd.fst.val.snd.fst, ()) aDv.snd.snd.fst.subs, ()), (cDv.fst,
  cDv.snd.fst, Rose.node ((cDv.snd.snd.fst.val.fst.fst, cDv.snd.snd.fst.val.fst.snd.fst, ()), cDv.snd.snd.fst.val.snd.fst, ()) cDv.snd.snd.fst.subs, ()), true) = (aDv, cDv, true))
  ∧ ((((((aDv.fst, aDv.snd.fst, Rose.node ((aDv.snd.snd.fst.val.fst.fst, aDv.snd.snd.fst.val.fst.snd.fst, ()), aDv.snd.snd.fst.val.snd.fst, ()) aDv.snd.snd.fst.subs, ()), (cDv.fst,
  cDv.snd.fst, Rose.node ((cDv.snd.snd.fst.val.fst.fst, cDv.snd.snd.fst.val.fst.snd.fst, ()), cDv.snd.snd.fst.val.snd.fst, ()) cDv.snd.snd.fst.subs, ()), true) = (aDv, cDv, true) ∧
  ((aDv.fst, aDv.snd.fst, Rose.node ((aDv.snd.snd.fst.val.fst.fst, aDv.snd.snd.fst.val.fst.snd.fst, ()), aDv.snd.snd.fst.val.snd.fst, ()) aDv.snd.snd.fst.subs, ()), (cDv.fst,
  cDv.snd.fst, Rose.node ((cDv.snd.snd.fst.val.fst.fst, cDv.snd.snd.fst.val.fst.snd.fst, ()), cDv.snd.snd.fst.val.snd.fst, ()) cDv.snd.snd.fst.subs, ()), true) = (aDv, cDv, true) ∧
  ((aDv.fst, aDv.snd.fst, Rose.node ((aDv.snd.snd.fst.val.fst.fst, aDv.snd.snd.fst.val.fst.snd.fst, ()), aDv.snd.snd.fst.val.snd.fst, ()) aDv.snd.snd.fst.subs, ()), (cDv.fst,
  cDv.snd.fst, Rose.node ((cDv.snd.snd.fst.val.fst.fst, cDv.snd.snd.fst.val.fst.snd.fst, ()), cDv.snd.snd.fst.val.snd.fst, ()) cDv.snd.snd.fst.subs, ()), true) = (aDv, cDv, true))
  ∧ (((aDv.fst, aDv.snd.fst, Rose.node ((aDv.snd.snd.fst.val.fst.fst, aDv.snd.snd.fst.val.fst.snd.fst, ()), aDv.snd.snd.fst.val.snd.fst, ()) aDv.snd.snd.fst.subs, ()), (cDv.fst,
  cDv.snd.fst, Rose.node ((cDv.snd.snd.fst.val.fst.fst, cDv.snd.snd.fst.val.fst.snd.fst, ()), cDv.snd.snd.fst.val.snd.fst, ()) cDv.snd.snd.fst.subs, ()), true) = (aDv, cDv, true) ∧
  ((aDv.fst, aDv.snd.fst, Rose.node ((aDv.snd.snd.fst.val.fst.fst, aDv.snd.snd.fst.val.fst.snd.fst, ()), aDv.snd.snd.fst.val.snd.fst, ()) aDv.snd.snd.fst.subs, ()), (cDv.fst,
  cDv.snd.fst, Rose.node ((cDv.snd.snd.fst.val.fst.fst, cDv.snd.snd.fst.val.fst.snd.fst, ()), cDv.snd.snd.fst.val.snd.fst, ()) cDv.snd.snd.fst.subs, ()), true) = (aDv, cDv, true))
  ∧ ((aDv.fst, aDv.snd.fst, Rose.node ((aDv.snd.snd.fst.val.fst.fst, aDv.snd.snd.fst.val.fst.snd.fst, ()), aDv.snd.snd.fst.val.snd.fst, ()) aDv.snd.snd.fst.subs, ()), (cDv.fst,
  cDv.snd.fst, Rose.node ((cDv.snd.snd.fst.val.fst.fst, cDv.snd.snd.fst.val.fst.snd.fst, ()), cDv.snd.snd.fst.val.snd.fst, ()) cDv.snd.snd.fst.subs, ()), true) = (aDv, cDv, true))
  ∧ ((((aDv.fst, aDv.snd.fst, Rose.node ((aDv.snd.snd.fst.val.fst.fst, aDv.snd.snd.fst.val.fst.snd.fst, ()), aDv.snd.snd.fst.val.snd.fst, ()) aDv.snd.snd.fst.subs, ()), (cDv.fst,
  cDv.snd.fst, Rose.node ((cDv.snd.snd.fst.val.fst.fst, cDv.snd.snd.fst.val.fst.snd.fst, ()), cDv.snd.snd.fst.val.snd.fst, ()) cDv.snd.snd.fst.subs, ()), true) = (aDv, cDv, true) ∧
  ((aDv.fst, aDv.snd.fst, Rose.node ((aDv.snd.snd.fst.val.fst.fst, aDv.snd.snd.fst.val.fst.snd.fst, ()), aDv.snd.snd.fst.val.snd.fst, ()) aDv.snd.snd.fst.subs, ()), (cDv.fst,
  cDv.snd.fst, Rose.node ((cDv.snd.snd.fst.val.fst.fst, cDv.snd.snd.fst.val.fst.snd.fst, ()), cDv.snd.snd.fst.val.snd.fst, ()) cDv.snd.snd.fst.subs, ()), true) = (aDv, cDv, true))
  ∧ ((aDv.fst, aDv.snd.fst, Rose.node ((aDv.snd.snd.fst.val.fst.fst, aDv.snd.snd.fst.val.fst.snd.fst, ()), aDv.snd.snd.fst.val.snd.fst, ()) aDv.snd.snd.fst.subs, ()), (cDv.fst,
  cDv.snd.fst, Rose.node ((cDv.snd.snd.fst.val.fst.fst, cDv.snd.snd.fst.val.fst.snd.fst, ()), cDv.snd.snd.fst.val.snd.fst, ()) cDv.snd.snd.fst.subs, ()), true) = (aDv, cDv, true))
  ∧ ((aDv.fst, aDv.snd.fst, Rose.node ((aDv.snd.snd.fst.val.fst.fst, aDv.snd.snd.fst.val.fst.snd.fst, ()), aDv.snd.snd.fst.val.snd.fst, ()) aDv.snd.snd.fst.subs, ()), (cDv.fst,
  cDv.snd.fst, Rose.node ((cDv.snd.snd.fst.val.fst.fst, cDv.snd.snd.fst.val.fst.snd.fst, ()), cDv.snd.snd.fst.val.snd.fst, ()) cDv.snd.snd.fst.subs, ()), true) = (aDv, cDv, true))
  ∧ (((((aDv.fst, aDv.snd.fst, Rose.node ((aDv.snd.snd.fst.val.fst.fst, aDv.snd.snd.fst.val.fst.snd.fst, ()), aDv.snd.snd.fst.val.snd.fst, ()) aDv.snd.snd.fst.subs, ()), (cDv.fst,
  cDv.snd.fst, Rose.node ((cDv.snd.snd.fst.val.fst.fst, cDv.snd.snd.fst.val.fst.snd.fst, ()), cDv.snd.snd.fst.val.snd.fst, ()) cDv.snd.snd.fst.subs, ()), true) = (aDv, cDv, true) ∧
  ((aDv.fst, aDv.snd.fst, Rose.node ((aDv.snd.snd.fst.val.fst.fst, aDv.snd.snd.fst.val.fst.snd.fst, ()), aDv.snd.snd.fst.val.snd.fst, ()) aDv.snd.snd.fst.subs, ()), (cDv.fst,
  cDv.snd.fst, Rose.node ((cDv.snd.snd.fst.val.fst.fst, cDv.snd.snd.fst.val.fst.snd.fst, ()), cDv.snd.snd.fst.val.snd.fst, ()) cDv.snd.snd.fst.subs, ()), true) = (aDv, cDv, true) ∧
  ((aDv.fst, aDv.snd.fst, Rose.node ((aDv.snd.snd.fst.val.fst.fst, aDv.snd.snd.fst.val.fst.snd.fst, ()), aDv.snd.snd.fst.val.snd.fst, ()) aDv.snd.snd.fst.subs, ()), (cDv.fst,
  cDv.snd.fst, Rose.node ((cDv.snd.snd.fst.val.fst.fst, cDv.snd.snd.fst.val.fst.snd.fst, ()), cDv.snd.snd.fst.val.snd.fst, ()) cDv.snd.snd.fst.subs, ()), true) = (aDv, cDv, true))
  ∧ (((aDv.fst, aDv.snd.fst, Rose.node ((aDv.snd.snd.fst.val.fst.fst, aDv.snd.snd.fst.val.fst.snd.fst, ()), aDv.snd.snd.fst.val.snd.fst, ()) aDv.snd.snd.fst.subs, ()), (cDv.fst,
  cDv.snd.fst, Rose.node ((cDv.snd.snd.fst.val.fst.fst, cDv.snd.snd.fst.val.fst.snd.fst, ()), cDv.snd.snd.fst.val.snd.fst, ()) cDv.snd.snd.fst.subs, ()), true) = (aDv, cDv, true) ∧
  ((aDv.fst, aDv.snd.fst, Rose.node ((aDv.snd.snd.fst.val.fst.fst, aDv.snd.snd.fst.val.fst.snd.fst, ()), aDv.snd.snd.fst.val.snd.fst, ()) aDv.snd.snd.fst.subs, ()), (cDv.fst,
  cDv.snd.fst, Rose.node ((cDv.snd.snd.fst.val.fst.fst, cDv.snd.snd.fst.val.fst.snd.fst, ()), cDv.snd.snd.fst.val.snd.fst, ()) cDv.snd.snd.fst.subs, ()), true) = (aDv, cDv, true))
  ∧ ((aDv.fst, aDv.snd.fst, Rose.node ((aDv.snd.snd.fst.val.fst.fst, aDv.snd.snd.fst.val.fst.snd.fst, ()), aDv.snd.snd.fst.val.snd.fst, ()) aDv.snd.snd.fst.subs, ()), (cDv.fst,
  cDv.snd.fst, Rose.node ((cDv.snd.snd.fst.val.fst.fst, cDv.snd.snd.fst.val.fst.snd.fst, ()), cDv.snd.snd.fst.val.snd.fst, ()) cDv.snd.snd.fst.subs, ()), true) = (aDv, cDv, true))
  ∧ ((((aDv.fst, aDv.snd.fst, Rose.node ((aDv.snd.snd.fst.val.fst.fst, aDv.snd.snd.fst.val.fst.snd.fst, ()), aDv.snd.snd.fst.val.snd.fst, ()) aDv.snd.snd.fst.subs, ()), (cDv.fst,
  cDv.snd.fst, Rose.node ((cDv.snd.snd.fst.val.fst.fst, cDv.snd.snd.fst.val.fst.snd.fst, ()), cDv.snd.snd.fst.val.snd.fst, ()) cDv.snd.snd.fst.subs, ()), true) = (aDv, cDv, true) ∧
  ((aDv.fst, aDv.snd.fst, Rose.node ((aDv.snd.snd.fst.val.fst.fst, aDv.snd.snd.fst.val.fst.snd.fst, ()), aDv.snd.snd.fst.val.snd.fst, ()) aDv.snd.snd.fst.subs, ()), (cDv.fst,
  cDv.snd.fst, Rose.node ((cDv.snd.snd.fst.val.fst.fst, cDv.snd.snd.fst.val.fst.snd.fst, ()), cDv.snd.snd.fst.val.snd.fst, ()) cDv.snd.snd.fst.subs, ()), true) = (aDv, cDv, true))
  ∧ ((aDv.fst, aDv.snd.fst, Rose.node ((aDv.snd.snd.fst.val.fst.fst, aDv.snd.snd.fst.val.fst.snd.fst, ()), aDv.snd.snd.fst.val.snd.fst, ()) aDv.snd.snd.fst.subs, ()), (cDv.fst,
  cDv.snd.fst, Rose.node ((cDv.snd.snd.fst.val.fst.fst, cDv.snd.snd.fst.val.fst.snd.fst, ()), cDv.snd.snd.fst.val.snd.fst, ()) cDv.snd.snd.fst.subs, ()), true) = (aDv, cDv, true))
  ∧ ((aDv.fst, aDv.snd.fst, Rose.node ((aDv.snd.snd.fst.val.fst.fst, aDv.snd.snd.fst.val.fst.snd.fst, ()), aDv.snd.snd.fst.val.snd.fst, ()) aDv.snd.snd.fst.subs, ()), (cDv.fst,
  cDv.snd.fst, Rose.node ((cDv.snd.snd.fst.val.fst.fst, cDv.snd.snd.fst.val.fst.snd.fst, ()), cDv.snd.snd.fst.val.snd.fst, ()) cDv.snd.snd.fst.subs, ()), true) = (aDv, cDv, true))
  ∧ (((((aDv.fst, aDv.snd.fst, Rose.node ((aDv.snd.snd.fst.val.fst.fst, aDv.snd.snd.fst.val.fst.snd.fst, ()), aDv.snd.snd.fst.val.snd.fst, ()) aDv.snd.snd.fst.subs, ()), (cDv.fst,
  cDv.snd.fst, Rose.node ((cDv.snd.snd.fst.val.fst.fst, cDv.snd.snd.fst.val.fst.snd.fst, ()), cDv.snd.snd.fst.val.snd.fst, ()) cDv.snd.snd.fst.subs, ()), true) = (aDv, cDv, true) ∧
  ((aDv.fst, aDv.snd.fst, Rose.node ((aDv.snd.snd.fst.val.fst.fst, aDv.snd.snd.fst.val.fst.snd.fst, ()), aDv.snd.snd.fst.val.snd.fst, ()) aDv.snd.snd.fst.subs, ()), (cDv.fst,
  cDv.snd.fst, Rose.node ((cDv.snd.snd.fst.val.fst.fst, cDv.snd.snd.fst.val.fst.snd.fst, ()), cDv.snd.snd.fst.val.snd.fst, ()) cDv.snd.snd.fst.subs, ()), true) = (aDv, cDv, true) ∧
  ((aDv.fst, aDv.snd.fst, Rose.node ((aDv.snd.snd.fst.val.fst.fst, aDv.snd.snd.fst.val.fst.snd.fst, ()), aDv.snd.snd.fst.val.snd.fst, ()) aDv.snd.snd.fst.subs, ()), (cDv.fst,
  cDv.snd.fst, Rose.node ((cDv.snd.snd.fst.val.fst.fst, cDv.snd.snd.fst.val.fst.snd.fst, ()), cDv.snd.snd.fst.val.snd.fst, ()) cDv.snd.snd.fst.subs, ()), true) = (aDv, cDv, true))
  ∧ (((aDv.fst, aDv.snd.fst, Rose.node ((aDv.snd.snd.fst.val.fst.fst, aDv.snd.snd.fst.val.fst.snd.fst, ()), aDv.snd.snd.fst.val.snd.fst, ()) aDv.snd.snd.fst.subs, ()), (cDv.fst,
  cDv.snd.fst, Rose.node ((cDv.snd.snd.fst.val.fst.fst, cDv.snd.snd.fst.val.fst.snd.fst, ()), cDv.snd.snd.fst.val.snd.fst, ()) cDv.snd.snd.fst.subs, ()), true) = (aDv, cDv, true) ∧
  ((aDv.fst, aDv.snd.fst, Rose.node ((aDv.snd.snd.fst.val.fst.fst, aDv.snd.snd.fst.val.fst.snd.fst, ()), aDv.snd.snd.fst.val.snd.fst, ()) aDv.snd.snd.fst.subs, ()), (cDv.fst,
  cDv.snd.fst, Rose.node ((cDv.snd.snd.fst.val.fst.fst, cDv.snd.snd.fst.val.fst.snd.fst, ()), cDv.snd.snd.fst.val.snd.fst, ()) cDv.snd.snd.fst.subs, ()), true) = (aDv, cDv, true))
  ∧ ((aDv.fst, aDv.snd.fst, Rose.node ((aDv.snd.snd.fst.val.fst.fst, aDv.snd.snd.fst.val.fst.snd.fst, ()), aDv.snd.snd.fst.val.snd.fst, ()) aDv.snd.snd.fst.subs, ()), (cDv.fst,
  cDv.snd.fst, Rose.node ((cDv.snd.snd.fst.val.fst.fst, cDv.snd.snd.fst.val.fst.snd.fst, ()), cDv.snd.snd.fst.val.snd.fst, ()) cDv.snd.snd.fst.subs, ()), true) = (aDv, cDv, true))
  ∧ ((((aDv.fst, aDv.snd.fst, Rose.node ((aDv.snd.snd.fst.val.fst.fst, aDv.snd.snd.fst.val.fst.snd.fst, ()), aDv.snd.snd.fst.val.snd.fst, ()) aDv.snd.snd.fst.subs, ()), (cDv.fst,
  cDv.snd.fst, Rose.node ((cDv.snd.snd.fst.val.fst.fst, cDv.snd.snd.fst.val.fst.snd.fst, ()), cDv.snd.snd.fst.val.snd.fst, ()) cDv.snd.snd.fst.subs, ()), true) = (aDv, cDv, true) ∧
  ((aDv.fst, aDv.snd.fst, Rose.node ((aDv.snd.snd.fst.val.fst.fst, aDv.snd.snd.fst.val.fst.snd.fst, ()), aDv.snd.snd.fst.val.snd.fst, ()) aDv.snd.snd.fst.subs, ()), (cDv.fst,
  cDv.snd.fst, Rose.node ((cDv.snd.snd.fst.val.fst.fst, cDv.snd.snd.fst.val.fst.snd.fst, ()), cDv.snd.snd.fst.val.snd.fst, ()) cDv.snd.snd.fst.subs, ()), true) = (aDv, cDv, true))
  ∧ ((aDv.fst, aDv.snd.fst, Rose.node ((aDv.snd.snd.fst.val.fst.fst, aDv.snd.snd.fst.val.fst.snd.fst, ()), aDv.snd.snd.fst.val.snd.fst, ()) aDv.snd.snd.fst.subs, ()), (cDv.fst,
  cDv.snd.fst, Rose.node ((cDv.snd.snd.fst.val.fst.fst, cDv.snd.snd.fst.val.fst.snd.fst, ()), cDv.snd.snd.fst.val.snd.fst, ()) cDv.snd.snd.fst.subs, ()), true) = (aDv, cDv, true))
  ∧ ((aDv.fst, aDv.snd.fst, Rose.node ((aDv.snd.snd.fst.val.fst.fst, aDv.snd.snd.fst.val.fst.snd.fst, ()), aDv.snd.snd.fst.val.snd.fst, ()) aDv.snd.snd.fst.subs, ()), (cDv.fst,
  cDv.snd.fst, Rose.node ((cDv.snd.snd.fst.val.fst.fst, cDv.snd.snd.fst.val.fst.snd.fst, ()), cDv.snd.snd.fst.val.snd.fst, ()) cDv.snd.snd.fst.subs, ()), true) = (aDv, cDv, true))
  ∧ (((((aDv.fst, aDv.snd.fst, Rose.node ((aDv.snd.snd.fst.val.fst.fst, aDv.snd.snd.fst.val.fst.snd.fst, ()), aDv.snd.snd.fst.val.snd.fst, ()) aDv.snd.snd.fst.subs, ()), (cDv.fst,
  cDv.snd.fst, Rose.node ((cDv.snd.snd.fst.val.fst.fst, cDv.snd.snd.fst.val.fst.snd.fst, ()), cDv.snd.snd.fst.val.snd.fst, ()) cDv.snd.snd.fst.subs, ()), true) = (aDv, cDv, true) ∧
  ((aDv.fst, aDv.snd.fst, Rose.node ((aDv.snd.snd.fst.val.fst.fst, aDv.snd.snd.fst.val.fst.snd.fst, ()), aDv.snd.snd.fst.val.snd.fst, ()) aDv.snd.snd.fst.subs, ()), (cDv.fst,
  cDv.snd.fst, Rose.node ((cDv.snd.snd.fst.val.fst.fst, cDv.snd.snd.fst.val.fst.snd.fst, ()), cDv.snd.snd.fst.val.snd.fst, ()) cDv.snd.snd.fst.subs, ()), true) = (aDv, cDv, true) ∧
  ((aDv.fst, aDv.snd.fst, Rose.node ((aDv.snd.snd.fst.val.fst.fst, aDv.snd.snd.fst.val.fst.snd.fst, ()), aDv.snd.snd.fst.val.snd.fst, ()) aDv.snd.snd.fst.subs, ()), (cDv.fst,
  cDv.snd.fst, Rose.node ((cDv.snd.snd.fst.val.fst.fst, cDv.snd.snd.fst.val.fst.snd.fst, ()), cDv.snd.snd.fst.val.snd.fst, ()) cDv.snd.snd.fst.subs, ()), true) = (aDv, cDv, true))
  ∧ (((aDv.fst, aDv.snd.fst, Rose.node ((aDv.snd.snd.fst.val.fst.fst, aDv.snd.snd.fst.val.fst.snd.fst, ()), aDv.snd.snd.fst.val.snd.fst, ()) aDv.snd.snd.fst.subs, ()), (cDv.fst,
  cDv.snd.fst, Rose.node ((cDv.snd.snd.fst.val.fst.fst, cDv.snd.snd.fst.val.fst.snd.fst, ()), cDv.snd.snd.fst.val.snd.fst, ()) cDv.snd.snd.fst.subs, ()), true) = (aDv, cDv, true) ∧
  ((aDv.fst, aDv.snd.fst, Rose.node ((aDv.snd.snd.fst.val.fst.fst, aDv.snd.snd.fst.val.fst.snd.fst, ()), aDv.snd.snd.fst.val.snd.fst, ()) aDv.snd.snd.fst.subs, ()), (cDv.fst,
  cDv.snd.fst, Rose.node ((cDv.snd.snd.fst.val.fst.fst, cDv.snd.snd.fst.val.fst.snd.fst, ()), cDv.snd.snd.fst.val.snd.fst, ()) cDv.snd.snd.fst.subs, ()), true) = (aDv, cDv, true))
  ∧ ((aDv.fst, aDv.snd.fst, Rose.node ((aDv.snd.snd.fst.val.fst.fst, aDv.snd.snd.fst.val.fst.snd.fst, ()), aDv.snd.snd.fst.val.snd.fst, ()) aDv.snd.snd.fst.subs, ()), (cDv.fst,
  cDv.snd.fst, Rose.node ((cDv.snd.snd.fst.val.fst.fst, cDv.snd.snd.fst.val.fst.snd.fst, ()), cDv.snd.snd.fst.val.snd.fst, ()) cDv.snd.snd.fst.subs, ()), true) = (aDv, cDv, true))
  ∧ ((((aDv.fst, aDv.snd.fst, Rose.node ((aDv.snd.snd.fst.val.fst.fst, aDv.snd.snd.fst.val.fst.snd.fst, ()), aDv.snd.snd.fst.val.snd.fst, ()) aDv.snd.snd.fst.subs, ()), (cDv.fst,
  cDv.snd.fst, Rose.node ((cDv.snd.snd.fst.val.fst.fst, cDv.snd.snd.fst.val.fst.snd.fst, ()), cDv.snd.snd.fst.val.snd.fst, ()) cDv.snd.snd.fst.subs, ()), true) = (aDv, cDv, true) ∧
  ((aDv.fst, aDv.snd.fst, Rose.node ((aDv.snd.snd.fst.val.fst.fst, aDv.snd.snd.fst.val.fst.snd.fst, ()), aDv.snd.snd.fst.val.snd.fst, ()) aDv.snd.snd.fst.subs, ()), (cDv.fst,
  cDv.snd.fst, Rose.node ((cDv.snd.snd.fst.val.fst.fst, cDv.snd.snd.fst.val.fst.snd.fst, ()), cDv.snd.snd.fst.val.snd.fst, ()) cDv.snd.snd.fst.subs, ()), true) = (aDv, cDv, true))
  ∧ ((aDv.fst, aDv.snd.fst, Rose.node ((aDv.snd.snd.fst.val.fst.fst, aDv.snd.snd.fst.val.fst.snd.fst, ()), aDv.snd.snd.fst.val.snd.fst, ()) aDv.snd.snd.fst.subs, ()), (cDv.fst,
  cDv.snd.fst, Rose.node ((cDv.snd.snd.fst.val.fst.fst, cDv.snd.snd.fst.val.fst.snd.fst, ()), cDv.snd.snd.fst.val.snd.fst, ()) cDv.snd.snd.fst.subs, ()), true) = (aDv, cDv, true))
  ∧ ((aDv.fst, aDv.snd.fst, Rose.node ((aDv.snd.snd.fst.val.fst.fst, aDv.snd.snd.fst.val.fst.snd.fst, ()), aDv.snd.snd.fst.val.snd.fst, ()) aDv.snd.snd.fst.subs, ()), (cDv.fst,
  cDv.snd.fst, Rose.node ((cDv.snd.snd.fst.val.fst.fst, cDv.snd.snd.fst.val.fst.snd.fst, ()), cDv.snd.snd.fst.val.snd.fst, ()) cDv.snd.snd.fst.subs, ()), true) = (aDv, cDv, true))
  ∧ ((((aDv.fst, aDv.snd.fst, Rose.node ((aDv.snd.snd.fst.val.fst.fst, aDv.snd.snd.fst.val.fst.snd.fst, ()), aDv.snd.snd.fst.val.snd.fst, ()) aDv.snd.snd.fst.subs, ()), (cDv.fst,
  cDv.snd.fst, Rose.node ((cDv.snd.snd.fst.val.fst.fst, cDv.snd.snd.fst.val.fst.snd.fst, ()), cDv.snd.snd.fst.val.snd.fst, ()) cDv.snd.snd.fst.subs, ()), true) = (aDv, cDv, true) ∧
  ((aDv.fst, aDv.snd.fst, Rose.node ((aDv.snd.snd.fst.val.fst.fst, aDv.snd.snd.fst.val.fst.snd.fst, ()), aDv.snd.snd.fst.val.snd.fst, ()) aDv.snd.snd.fst.subs, ()), (cDv.fst,
  cDv.snd.fst, Rose.node ((cDv.snd.snd.fst.val.fst.fst, cDv.snd.snd.fst.val.fst.snd.fst, ()), cDv.snd.snd.fst.val.snd.fst, ()) cDv.snd.snd.fst.subs, ()), true) = (aDv, cDv, true) ∧
  ((aDv.fst, aDv.snd.fst, Rose.node ((aDv.snd.snd.fst.val.fst.fst, aDv.snd.snd.fst.val.fst.snd.fst, ()), aDv.snd.snd.fst.val.snd.fst, ()) aDv.snd.snd.fst.subs, ()), (cDv.fst,
  cDv.snd.fst, Rose.node ((cDv.snd.snd.fst.val.fst.fst, cDv.snd.snd.fst.val.fst.snd.fst, ()), cDv.snd.snd.fst.val.snd.fst, ()) cDv.snd.snd.fst.subs, ()), true) = (aDv, cDv, true))
  ∧ (((aDv.fst, aDv.snd.fst, Rose.node ((aDv.snd.snd.fst.val.fst.fst, aDv.snd.snd.fst.val.fst.snd.fst, ()), aDv.snd.snd.fst.val.snd.fst, ()) aDv.snd.snd.fst.subs, ()), (cDv.fst,
  cDv.snd.fst, Rose.node ((cDv.snd.snd.fst.val.fst.fst, cDv.snd.snd.fst.val.fst.snd.fst, ()), cDv.snd.snd.fst.val.snd.fst, ()) cDv.snd.snd.fst.subs, ()), true) = (aDv, cDv, true) ∧
  ((aDv.fst, aDv.snd.fst, Rose.node ((aDv.snd.snd.fst.val.fst.fst, aDv.snd.snd.fst.val.fst.snd.fst, ()), aDv.snd.snd.fst.val.snd.fst, ()) aDv.snd.snd.fst.subs, ()), (cDv.fst,
  cDv.snd.fst, Rose.node ((cDv.snd.snd.fst.val.fst.fst, cDv.snd.snd.fst.val.fst.snd.fst, ()), cDv.snd.snd.fst.val.snd.fst, ()) cDv.snd.snd.fst.subs, ()), true) = (aDv, cDv, true))
  ∧ ((aDv.fst, aDv.snd.fst, Rose.node ((aDv.snd.snd.fst.val.fst.fst, aDv.snd.snd.fst.val.fst.snd.fst, ()), aDv.snd.snd.fst.val.snd.fst, ()) aDv.snd.snd.fst.subs, ()), (cDv.fst,
  cDv.snd.fst, Rose.node ((cDv.snd.snd.fst.val.fst.fst, cDv.snd.snd.fst.val.fst.snd.fst, ()), cDv.snd.snd.fst.val.snd.fst, ()) cDv.snd.snd.fst.subs, ()), true) = (aDv, cDv, true))
  ∧ (((aDv.fst, aDv.snd.fst, Rose.node ((aDv.snd.snd.fst.val.fst.fst, aDv.snd.snd.fst.val.fst.snd.fst, ()), aDv.snd.snd.fst.val.snd.fst, ()) aDv.snd.snd.fst.subs, ()), (cDv.fst,
  cDv.snd.fst, Rose.node ((cDv.snd.snd.fst.val.fst.fst, cDv.snd.snd.fst.val.fst.snd.fst, ()), cDv.snd.snd.fst.val.snd.fst, ()) cDv.snd.snd.fst.subs, ()), true) = (aDv, cDv, true) ∧
  ((aDv.fst, aDv.snd.fst, Rose.node ((aDv.snd.snd.fst.val.fst.fst, aDv.snd.snd.fst.val.fst.snd.fst, ()), aDv.snd.snd.fst.val.snd.fst, ()) aDv.snd.snd.fst.subs, ()), (cDv.fst,
  cDv.snd.fst, Rose.node ((cDv.snd.snd.fst.val.fst.fst, cDv.snd.snd.fst.val.fst.snd.fst, ()), cDv.snd.snd.fst.val.snd.fst, ()) cDv.snd.snd.fst.subs, ()), true) = (aDv, cDv, true) ∧
  ((aDv.fst, aDv.snd.fst, Rose.node ((aDv.snd.snd.fst.val.fst.fst, aDv.snd.snd.fst.val.fst.snd.fst, ()), aDv.snd.snd.fst.val.snd.fst, ()) aDv.snd.snd.fst.subs, ()), (cDv.fst,
  cDv.snd.fst, Rose.node ((cDv.snd.snd.fst.val.fst.fst, cDv.snd.snd.fst.val.fst.snd.fst, ()), cDv.snd.snd.fst.val.snd.fst, ()) cDv.snd.snd.fst.subs, ()), true) = (aDv, cDv, true))
  ∧ ((aDv.fst, aDv.snd.fst, Rose.node ((aDv.snd.snd.fst.val.fst.fst, aDv.snd.snd.fst.val.fst.snd.fst, ()), aDv.snd.snd.fst.val.snd.fst, ()) aDv.snd.snd.fst.subs, ()), (cDv.fst,
  cDv.snd.fst, Rose.node ((cDv.snd.snd.fst.val.fst.fst, cDv.snd.snd.fst.val.fst.snd.fst, ()), cDv.snd.snd.fst.val.snd.fst, ()) cDv.snd.snd.fst.subs, ()), true) = (aDv, cDv, true))
  ∧ ((((((aDv.fst, aDv.snd.fst, Rose.node ((aDv.snd.snd.fst.val.fst.fst, aDv.snd.snd.fst.val.fst.snd.fst, ()), aDv.snd.snd.fst.val.snd.fst, ()) aDv.snd.snd.fst.subs, ()), (cDv.fst,
  cDv.snd.fst, Rose.node ((cDv.snd.snd.fst.val.fst.fst, cDv.snd.snd.fst.val.fst.snd.fst, ()), cDv.snd.snd.fst.val.snd.fst, ()) cDv.snd.snd.fst.subs, ()), true) = (aDv, cDv, true) ∧
  ((aDv.fst, aDv.snd.fst, Rose.node ((aDv.snd.snd.fst.val.fst.fst, aDv.snd.snd.fst.val.fst.snd.fst, ()), aDv.snd.snd.fst.val.snd.fst, ()) aDv.snd.snd.fst.subs, ()), (cDv.fst,
  cDv.snd.fst, Rose.node ((cDv.snd.snd.fst.val.fst.fst, cDv.snd.snd.fst.val.fst.snd.fst, ()), cDv.snd.snd.fst.val.snd.fst, ()) cDv.snd.snd.fst.subs, ()), true) = (aDv, cDv, true) ∧
  ((aDv.fst, aDv.snd.fst, Rose.node ((aDv.snd.snd.fst.val.fst.fst, aDv.snd.snd.fst.val.fst.snd.fst, ()), aDv.snd.snd.fst.val.snd.fst, ()) aDv.snd.snd.fst.subs, ()), (cDv.fst,
  cDv.snd.fst, Rose.node ((cDv.snd.snd.fst.val.fst.fst, cDv.snd.snd.fst.val.fst.snd.fst, ()), cDv.snd.snd.fst.val.snd.fst, ()) cDv.snd.snd.fst.subs, ()), true) = (aDv, cDv, true))
  ∧ (((aDv.fst, aDv.snd.fst, Rose.node ((aDv.snd.snd.fst.val.fst.fst, aDv.snd.snd.fst.val.fst.snd.fst, ()), aDv.snd.snd.fst.val.snd.fst, ()) aDv.snd.snd.fst.subs, ()), (cDv.fst,
  cDv.snd.fst, Rose.node ((cDv.snd.snd.fst.val.fst.fst, cDv.snd.snd.fst.val.fst.snd.fst, ()), cDv.snd.snd.fst.val.snd.fst, ()) cDv.snd.snd.fst.subs, ()), true) = (aDv, cDv, true) ∧
  ((aDv.fst, aDv.snd.fst, Rose.node ((aDv.snd.snd.fst.val.fst.fst, aDv.snd.snd.fst.val.fst.snd.fst, ()), aDv.snd.snd.fst.val.snd.fst, ()) aDv.snd.snd.fst.subs, ()), (cDv.fst,
  cDv.snd.fst, Rose.node ((cDv.snd.snd.fst.val.fst.fst, cDv.snd.snd.fst.val.fst.snd.fst, ()), cDv.snd.snd.fst.val.snd.fst, ()) cDv.snd.snd.fst.subs, ()), true) = (aDv, cDv, true))
  ∧ ((aDv.fst, aDv.snd.fst, Rose.node ((aDv.snd.snd.fst.val.fst.fst, aDv.snd.snd.fst.val.fst.snd.fst, ()), aDv.snd.snd.fst.val.snd.fst, ()) aDv.snd.snd.fst.subs, ()), (cDv.fst,
  cDv.snd.fst, Rose.node ((cDv.snd.snd.fst.val.fst.fst, cDv.snd.snd.fst.val.fst.snd.fst, ()), cDv.snd.snd.fst.val.snd.fst, ()) cDv.snd.snd.fst.subs, ()), true) = (aDv, cDv, true))
  ∧ ((((aDv.fst, aDv.snd.fst, Rose.node ((aDv.snd.snd.fst.val.fst.fst, aDv.snd.snd.fst.val.fst.snd.fst, ()), aDv.snd.snd.fst.val.snd.fst, ()) aDv.snd.snd.fst.subs, ()), (cDv.fst,
  cDv.snd.fst, Rose.node ((cDv.snd.snd.fst.val.fst.fst, cDv.snd.snd.fst.val.fst.snd.fst, ()), cDv.snd.snd.fst.val.snd.fst, ()) cDv.snd.snd.fst.subs, ()), true) = (aDv, cDv, true) ∧
  ((aDv.fst, aDv.snd.fst, Rose.node ((aDv.snd.snd.fst.val.fst.fst, aDv.snd.snd.fst.val.fst.snd.fst, ()), aDv.snd.snd.fst.val.snd.fst, ()) aDv.snd.snd.fst.subs, ()), (cDv.fst,
  cDv.snd.fst, Rose.node ((cDv.snd.snd.fst.val.fst.fst, cDv.snd.snd.fst.val.fst.snd.fst, ()), cDv.snd.snd.fst.val.snd.fst, ()) cDv.snd.snd.fst.subs, ()), true) = (aDv, cDv, true))
  ∧ ((aDv.fst, aDv.snd.fst, Rose.node ((aDv.snd.snd.fst.val.fst.fst, aDv.snd.snd.fst.val.fst.snd.fst, ()), aDv.snd.snd.fst.val.snd.fst, ()) aDv.snd.snd.fst.subs, ()), (cDv.fst,
  cDv.snd.fst, Rose.node ((cDv.snd.snd.fst.val.fst.fst, cDv.snd.snd.fst.val.fst.snd.fst, ()), cDv.snd.snd.fst.val.snd.fst, ()) cDv.snd.snd.fst.subs, ()), true) = (aDv, cDv, true))
  ∧ ((aDv.fst, aDv.snd.fst, Rose.node ((aDv.snd.snd.fst.val.fst.fst, aDv.snd.snd.fst.val.fst.snd.fst, ()), aDv.snd.snd.fst.val.snd.fst, ()) aDv.snd.snd.fst.subs, ()), (cDv.fst,
  cDv.snd.fst, Rose.node ((cDv.snd.snd.fst.val.fst.fst, cDv.snd.snd.fst.val.fst.snd.fst, ()), cDv.snd.snd.fst.val.snd.fst, ()) cDv.snd.snd.fst.subs, ()), true) = (aDv, cDv, true))
  ∧ (((((aDv.fst, aDv.snd.fst, Rose.node ((aDv.snd.snd.fst.val.fst.fst, aDv.snd.snd.fst.val.fst.snd.fst, ()), aDv.snd.snd.fst.val.snd.fst, ()) aDv.snd.snd.fst.subs, ()), (cDv.fst,
  cDv.snd.fst, Rose.node ((cDv.snd.snd.fst.val.fst.fst, cDv.snd.snd.fst.val.fst.snd.fst, ()), cDv.snd.snd.fst.val.snd.fst, ()) cDv.snd.snd.fst.subs, ()), true) = (aDv, cDv, true) ∧
  ((aDv.fst, aDv.snd.fst, Rose.node ((aDv.snd.snd.fst.val.fst.fst, aDv.snd.snd.fst.val.fst.snd.fst, ()), aDv.snd.snd.fst.val.snd.fst, ()) aDv.snd.snd.fst.subs, ()), (cDv.fst,
  cDv.snd.fst, Rose.node ((cDv.snd.snd.fst.val.fst.fst, cDv.snd.snd.fst.val.fst.snd.fst, ()), cDv.snd.snd.fst.val.snd.fst, ()) cDv.snd.snd.fst.subs, ()), true) = (aDv, cDv, true) ∧
  ((aDv.fst, aDv.snd.fst, Rose.node ((aDv.snd.snd.fst.val.fst.fst, aDv.snd.snd.fst.val.fst.snd.fst, ()), aDv.snd.snd.fst.val.snd.fst, ()) aDv.snd.snd.fst.subs, ()), (cDv.fst,
  cDv.snd.fst, Rose.node ((cDv.snd.snd.fst.val.fst.fst, cDv.snd.snd.fst.val.fst.snd.fst, ()), cDv.snd.snd.fst.val.snd.fst, ()) cDv.snd.snd.fst.subs, ()), true) = (aDv, cDv, true))
  ∧ (((aDv.fst, aDv.snd.fst, Rose.node ((aDv.snd.snd.fst.val.fst.fst, aDv.snd.snd.fst.val.fst.snd.fst, ()), aDv.snd.snd.fst.val.snd.fst, ()) aDv.snd.snd.fst.subs, ()), (cDv.fst,
  cDv.snd.fst, Rose.node ((cDv.snd.snd.fst.val.fst.fst, cDv.snd.snd.fst.val.fst.snd.fst, ()), cDv.snd.snd.fst.val.snd.fst, ()) cDv.snd.snd.fst.subs, ()), true) = (aDv, cDv, true) ∧
  ((aDv.fst, aDv.snd.fst, Rose.node ((aDv.snd.snd.fst.val.fst.fst, aDv.snd.snd.fst.val.fst.snd.fst, ()), aDv.snd.snd.fst.val.snd.fst, ()) aDv.snd.snd.fst.subs, ()), (cDv.fst,
  cDv.snd.fst, Rose.node ((cDv.snd.snd.fst.val.fst.fst, cDv.snd.snd.fst.val.fst.snd.fst, ()), cDv.snd.snd.fst.val.snd.fst, ()) cDv.snd.snd.fst.subs, ()), true) = (aDv, cDv, true))
  ∧ ((aDv.fst, aDv.snd.fst, Rose.node ((aDv.snd.snd.fst.val.fst.fst, aDv.snd.snd.fst.val.fst.snd.fst, ()), aDv.snd.snd.fst.val.snd.fst, ()) aDv.snd.snd.fst.subs, ()), (cDv.fst,
  cDv.snd.fst, Rose.node ((cDv.snd.snd.fst.val.fst.fst, cDv.snd.snd.fst.val.fst.snd.fst, ()), cDv.snd.snd.fst.val.snd.fst, ()) cDv.snd.snd.fst.subs, ()), true) = (aDv, cDv, true))
  ∧ ((((aDv.fst, aDv.snd.fst, Rose.node ((aDv.snd.snd.fst.val.fst.fst, aDv.snd.snd.fst.val.fst.snd.fst, ()), aDv.snd.snd.fst.val.snd.fst, ()) aDv.snd.snd.fst.subs, ()), (cDv.fst,
  cDv.snd.fst, Rose.node ((cDv.snd.snd.fst.val.fst.fst, cDv.snd.snd.fst.val.fst.snd.fst, ()), cDv.snd.snd.fst.val.snd.fst, ()) cDv.snd.snd.fst.subs, ()), true) = (aDv, cDv, true) ∧
  ((aDv.fst, aDv.snd.fst, Rose.node ((aDv.snd.snd.fst.val.fst.fst, aDv.snd.snd.fst.val.fst.snd.fst, ()), aDv.snd.snd.fst.val.snd.fst, ()) aDv.snd.snd.fst.subs, ()), (cDv.fst,
  cDv.snd.fst, Rose.node ((cDv.snd.snd.fst.val.fst.fst, cDv.snd.snd.fst.val.fst.snd.fst, ()), cDv.snd.snd.fst.val.snd.fst, ()) cDv.snd.snd.fst.subs, ()), true) = (aDv, cDv, true))
  ∧ ((aDv.fst, aDv.snd.fst, Rose.node ((aDv.snd.snd.fst.val.fst.fst, aDv.snd.snd.fst.val.fst.snd.fst, ()), aDv.snd.snd.fst.val.snd.fst, ()) aDv.snd.snd.fst.subs, ()), (cDv.fst,
  cDv.snd.fst, Rose.node ((cDv.snd.snd.fst.val.fst.fst, cDv.snd.snd.fst.val.fst.snd.fst, ()), cDv.snd.snd.fst.val.snd.fst, ()) cDv.snd.snd.fst.subs, ()), true) = (aDv, cDv, true))
  ∧ ((aDv.fst, aDv.snd.fst, Rose.node ((aDv.snd.snd.fst.val.fst.fst, aDv.snd.snd.fst.val.fst.snd.fst, ()), aDv.snd.snd.fst.val.snd.fst, ()) aDv.snd.snd.fst.subs, ()), (cDv.fst,
  cDv.snd.fst, Rose.node ((cDv.snd.snd.fst.val.fst.fst, cDv.snd.snd.fst.val.fst.snd.fst, ()), cDv.snd.snd.fst.val.snd.fst, ()) cDv.snd.snd.fst.subs, ()), true) = (aDv, cDv, true))
  ∧ (((((aDv.fst, aDv.snd.fst, Rose.node ((aDv.snd.snd.fst.val.fst.fst, aDv.snd.snd.fst.val.fst.snd.fst, ()), aDv.snd.snd.fst.val.snd.fst, ()) aDv.snd.snd.fst.subs, ()), (cDv.fst,
  cDv.snd.fst, Rose.node ((cDv.snd.snd.fst.val.fst.fst, cDv.snd.snd.fst.val.fst.snd.fst, ()), cDv.snd.snd.fst.val.snd.fst, ()) cDv.snd.snd.fst.subs, ()), true) = (aDv, cDv, true) ∧
  ((aDv.fst, aDv.snd.fst, Rose.node ((aDv.snd.snd.fst.val.fst.fst, aDv.snd.snd.fst.val.fst.snd.fst, ()), aDv.snd.snd.fst.val.snd.fst, ()) aDv.snd.snd.fst.subs, ()), (cDv.fst,
  cDv.snd.fst, Rose.node ((cDv.snd.snd.fst.val.fst.fst, cDv.snd.snd.fst.val.fst.snd.fst, ()), cDv.snd.snd.fst.val.snd.fst, ()) cDv.snd.snd.fst.subs, ()), true) = (aDv, cDv, true) ∧
  ((aDv.fst, aDv.snd.fst, Rose.node ((aDv.snd.snd.fst.val.fst.fst, aDv.snd.snd.fst.val.fst.snd.fst, ()), aDv.snd.snd.fst.val.snd.fst, ()) aDv.snd.snd.fst.subs, ()), (cDv.fst,
  cDv.snd.fst, Rose.node ((cDv.snd.snd.fst.val.fst.fst, cDv.snd.snd.fst.val.fst.snd.fst, ()), cDv.snd.snd.fst.val.snd.fst, ()) cDv.snd.snd.fst.subs, ()), true) = (aDv, cDv, true))
  ∧ (((aDv.fst, aDv.snd.fst, Rose.node ((aDv.snd.snd.fst.val.fst.fst, aDv.snd.snd.fst.val.fst.snd.fst, ()), aDv.snd.snd.fst.val.snd.fst, ()) aDv.snd.snd.fst.subs, ()), (cDv.fst,
  cDv.snd.fst, Rose.node ((cDv.snd.snd.fst.val.fst.fst, cDv.snd.snd.fst.val.fst.snd.fst, ()), cDv.snd.snd.fst.val.snd.fst, ()) cDv.snd.snd.fst.subs, ()), true) = (aDv, cDv, true) ∧
  ((aDv.fst, aDv.snd.fst, Rose.node ((aDv.snd.snd.fst.val.fst.fst, aDv.snd.snd.fst.val.fst.snd.fst, ()), aDv.snd.snd.fst.val.snd.fst, ()) aDv.snd.snd.fst.subs, ()), (cDv.fst,
  cDv.snd.fst, Rose.node ((cDv.snd.snd.fst.val.fst.fst, cDv.snd.snd.fst.val.fst.snd.fst, ()), cDv.snd.snd.fst.val.snd.fst, ()) cDv.snd.snd.fst.subs, ()), true) = (aDv, cDv, true))
  ∧ ((aDv.fst, aDv.snd.fst, Rose.node ((aDv.snd.snd.fst.val.fst.fst, aDv.snd.snd.fst.val.fst.snd.fst, ()), aDv.snd.snd.fst.val.snd.fst, ()) aDv.snd.snd.fst.subs, ()), (cDv.fst,
  cDv.snd.fst, Rose.node ((cDv.snd.snd.fst.val.fst.fst, cDv.snd.snd.fst.val.fst.snd.fst, ()), cDv.snd.snd.fst.val.snd.fst, ()) cDv.snd.snd.fst.subs, ()), true) = (aDv, cDv, true))
  ∧ ((((aDv.fst, aDv.snd.fst, Rose.node ((aDv.snd.snd.fst.val.fst.fst, aDv.snd.snd.fst.val.fst.snd.fst, ()), aDv.snd.snd.fst.val.snd.fst, ()) aDv.snd.snd.fst.subs, ()), (cDv.fst,
  cDv.snd.fst, Rose.node ((cDv.snd.snd.fst.val.fst.fst, cDv.snd.snd.fst.val.fst.snd.fst, ()), cDv.snd.snd.fst.val.snd.fst, ()) cDv.snd.snd.fst.subs, ()), true) = (aDv, cDv, true) ∧
  ((aDv.fst, aDv.snd.fst, Rose.node ((aDv.snd.snd.fst.val.fst.fst, aDv.snd.snd.fst.val.fst.snd.fst, ()), aDv.snd.snd.fst.val.snd.fst, ()) aDv.snd.snd.fst.subs, ()), (cDv.fst,
  cDv.snd.fst, Rose.node ((cDv.snd.snd.fst.val.fst.fst, cDv.snd.snd.fst.val.fst.snd.fst, ()), cDv.snd.snd.fst.val.snd.fst, ()) cDv.snd.snd.fst.subs, ()), true) = (aDv, cDv, true))
  ∧ ((aDv.fst, aDv.snd.fst, Rose.node ((aDv.snd.snd.fst.val.fst.fst, aDv.snd.snd.fst.val.fst.snd.fst, ()), aDv.snd.snd.fst.val.snd.fst, ()) aDv.snd.snd.fst.subs, ()), (cDv.fst,
  cDv.snd.fst, Rose.node ((cDv.snd.snd.fst.val.fst.fst, cDv.snd.snd.fst.val.fst.snd.fst, ()), cDv.snd.snd.fst.val.snd.fst, ()) cDv.snd.snd.fst.subs, ()), true) = (aDv, cDv, true))
  ∧ ((aDv.fst, aDv.snd.fst, Rose.node ((aDv.snd.snd.fst.val.fst.fst, aDv.snd.snd.fst.val.fst.snd.fst, ()), aDv.snd.snd.fst.val.snd.fst, ()) aDv.snd.snd.fst.subs, ()), (cDv.fst,
  cDv.snd.fst, Rose.node ((cDv.snd.snd.fst.val.fst.fst, cDv.snd.snd.fst.val.fst.snd.fst, ()), cDv.snd.snd.fst.val.snd.fst, ()) cDv.snd.snd.fst.subs, ()), true) = (aDv, cDv, true))
  ∧ (((((aDv.fst, aDv.snd.fst, Rose.node ((aDv.snd.snd.fst.val.fst.fst, aDv.snd.snd.fst.val.fst.snd.fst, ()), aDv.snd.snd.fst.val.snd.fst, ()) aDv.snd.snd.fst.subs, ()), (cDv.fst,
  cDv.snd.fst, Rose.node ((cDv.snd.snd.fst.val.fst.fst, cDv.snd.snd.fst.val.fst.snd.fst, ()), cDv.snd.snd.fst.val.snd.fst, ()) cDv.snd.snd.fst.subs, ()), true) = (aDv, cDv, true) ∧
  ((aDv.fst, aDv.snd.fst, Rose.node ((aDv.snd.snd.fst.val.fst.fst, aDv.snd.snd.fst.val.fst.snd.fst, ()), aDv.snd.snd.fst.val.snd.fst, ()) aDv.snd.snd.fst.subs, ()), (cDv.fst,
  cDv.snd.fst, Rose.node ((cDv.snd.snd.fst.val.fst.fst, cDv.snd.snd.fst.val.fst.snd.fst, ()), cDv.snd.snd.fst.val.snd.fst, ()) cDv.snd.snd.fst.subs, ()), true) = (aDv, cDv, true) ∧
  ((aDv.fst, aDv.snd.fst, Rose.node ((aDv.snd.snd.fst.val.fst.fst, aDv.snd.snd.fst.val.fst.snd.fst, ()), aDv.snd.snd.fst.val.snd.fst, ()) aDv.snd.snd.fst.subs, ()), (cDv.fst,
  cDv.snd.fst, Rose.node ((cDv.snd.snd.fst.val.fst.fst, cDv.snd.snd.fst.val.fst.snd.fst, ()), cDv.snd.snd.fst.val.snd.fst, ()) cDv.snd.snd.fst.subs, ()), true) = (aDv, cDv, true))
  ∧ (((aDv.fst, aDv.snd.fst, Rose.node ((aDv.snd.snd.fst.val.fst.fst, aDv.snd.snd.fst.val.fst.snd.fst, ()), aDv.snd.snd.fst.val.snd.fst, ()) aDv.snd.snd.fst.subs, ()), (cDv.fst,
  cDv.snd.fst, Rose.node ((cDv.snd.snd.fst.val.fst.fst, cDv.snd.snd.fst.val.fst.snd.fst, ()), cDv.snd.snd.fst.val.snd.fst, ()) cDv.snd.snd.fst.subs, ()), true) = (aDv, cDv, true) ∧
  ((aDv.fst, aDv.snd.fst, Rose.node ((aDv.snd.snd.fst.val.fst.fst, aDv.snd.snd.fst.val.fst.snd.fst, ()), aDv.snd.snd.fst.val.snd.fst, ()) aDv.snd.snd.fst.subs, ()), (cDv.fst,
  cDv.snd.fst, Rose.node ((cDv.snd.snd.fst.val.fst.fst, cDv.snd.snd.fst.val.fst.snd.fst, ()), cDv.snd.snd.fst.val.snd.fst, ()) cDv.snd.snd.fst.subs, ()), true) = (aDv, cDv, true))
  ∧ ((aDv.fst, aDv.snd.fst, Rose.node ((aDv.snd.snd.fst.val.fst.fst, aDv.snd.snd.fst.val.fst.snd.fst, ()), aDv.snd.snd.fst.val.snd.fst, ()) aDv.snd.snd.fst.subs, ()), (cDv.fst,
  cDv.snd.fst, Rose.node ((cDv.snd.snd.fst.val.fst.fst, cDv.snd.snd.fst.val.fst.snd.fst, ()), cDv.snd.snd.fst.val.snd.fst, ()) cDv.snd.snd.fst.subs, ()), true) = (aDv, cDv, true))
  ∧ ((((aDv.fst, aDv.snd.fst, Rose.node ((aDv.snd.snd.fst.val.fst.fst, aDv.snd.snd.fst.val.fst.snd.fst, ()), aDv.snd.snd.fst.val.snd.fst, ()) aDv.snd.snd.fst.subs, ()), (cDv.fst,
  cDv.snd.fst, Rose.node ((cDv.snd.snd.fst.val.fst.fst, cDv.snd.snd.fst.val.fst.snd.fst, ()), cDv.snd.snd.fst.val.snd.fst, ()) cDv.snd.snd.fst.subs, ()), true) = (aDv, cDv, true) ∧
  ((aDv.fst, aDv.snd.fst, Rose.node ((aDv.snd.snd.fst.val.fst.fst, aDv.snd.snd.fst.val.fst.snd.fst, ()), aDv.snd.snd.fst.val.snd.fst, ()) aDv.snd.snd.fst.subs, ()), (cDv.fst,
  cDv.snd.fst, Rose.node ((cDv.snd.snd.fst.val.fst.fst, cDv.snd.snd.fst.val.fst.snd.fst, ()), cDv.snd.snd.fst.val.snd.fst, ()) cDv.snd.snd.fst.subs, ()), true) = (aDv, cDv, true) ∧
  ((aDv.fst, aDv.snd.fst, Rose.node ((aDv.snd.snd.fst.val.fst.fst, aDv.snd.snd.fst.val.fst.snd.fst, ()), aDv.snd.snd.fst.val.snd.fst, ()) aDv.snd.snd.fst.subs, ()), (cDv.fst,
  cDv.snd.fst, Rose.node ((cDv.snd.snd.fst.val.fst.fst, cDv.snd.snd.fst.val.fst.snd.fst, ()), cDv.snd.snd.fst.val.snd.fst, ()) cDv.snd.snd.fst.subs, ()), true) = (aDv, cDv, true))
  ∧ (((aDv.fst, aDv.snd.fst, Rose.node ((aDv.snd.snd.fst.val.fst.fst, aDv.snd.snd.fst.val.fst.snd.fst, ()), aDv.snd.snd.fst.val.snd.fst, ()) aDv.snd.snd.fst.subs, ()), (cDv.fst,
  cDv.snd.fst, Rose.node ((cDv.snd.snd.fst.val.fst.fst, cDv.snd.snd.fst.val.fst.snd.fst, ()), cDv.snd.snd.fst.val.snd.fst, ()) cDv.snd.snd.fst.subs, ()), true) = (aDv, cDv, true) ∧
  ((aDv.fst, aDv.snd.fst, Rose.node ((aDv.snd.snd.fst.val.fst.fst, aDv.snd.snd.fst.val.fst.snd.fst, ()), aDv.snd.snd.fst.val.snd.fst, ()) aDv.snd.snd.fst.subs, ()), (cDv.fst,
  cDv.snd.fst, Rose.node ((cDv.snd.snd.fst.val.fst.fst, cDv.snd.snd.fst.val.fst.snd.fst, ()), cDv.snd.snd.fst.val.snd.fst, ()) cDv.snd.snd.fst.subs, ()), true) = (aDv, cDv, true))
  ∧ (((aDv.fst, aDv.snd.fst, Rose.node ((aDv.snd.snd.fst.val.fst.fst, aDv.snd.snd.fst.val.fst.snd.fst, ()), aDv.snd.snd.fst.val.snd.fst, ()) aDv.snd.snd.fst.subs, ()), (cDv.fst,
  cDv.snd.fst, Rose.node ((cDv.snd.snd.fst.val.fst.fst, cDv.snd.snd.fst.val.fst.snd.fst, ()), cDv.snd.snd.fst.val.snd.fst, ()) cDv.snd.snd.fst.subs, ()), true) = (aDv, cDv, true) ∧
  ((aDv.fst, aDv.snd.fst, Rose.node ((aDv.snd.snd.fst.val.fst.fst, aDv.snd.snd.fst.val.fst.snd.fst, ()), aDv.snd.snd.fst.val.snd.fst, ()) aDv.snd.snd.fst.subs, ()), (cDv.fst,
  cDv.snd.fst, Rose.node ((cDv.snd.snd.fst.val.fst.fst, cDv.snd.snd.fst.val.fst.snd.fst, ()), cDv.snd.snd.fst.val.snd.fst, ()) cDv.snd.snd.fst.subs, ()), true) = (aDv, cDv, true))
  ∧ ((aDv.fst, aDv.snd.fst, Rose.node ((aDv.snd.snd.fst.val.fst.fst, aDv.snd.snd.fst.val.fst.snd.fst, ()), aDv.snd.snd.fst.val.snd.fst, ()) aDv.snd.snd.fst.subs, ()), (cDv.fst,
  cDv.snd.fst, Rose.node ((cDv.snd.snd.fst.val.fst.fst, cDv.snd.snd.fst.val.fst.snd.fst, ()), cDv.snd.snd.fst.val.snd.fst, ()) cDv.snd.snd.fst.subs, ()), true) = (aDv, cDv, true))
  ∧ ((((aDv.fst, aDv.snd.fst, Rose.node ((aDv.snd.snd.fst.val.fst.fst, aDv.snd.snd.fst.val.fst.snd.fst, ()), aDv.snd.snd.fst.val.snd.fst, ()) aDv.snd.snd.fst.subs, ()), (cDv.fst,
  cDv.snd.fst, Rose.node ((cDv.snd.snd.fst.val.fst.fst, cDv.snd.snd.fst.val.fst.snd.fst, ()), cDv.snd.snd.fst.val.snd.fst, ()) cDv.snd.snd.fst.subs, ()), true) = (aDv, cDv, true) ∧
  ((aDv.fst, aDv.snd.fst, Rose.node ((aDv.snd.snd.fst.val.fst.fst, aDv.snd.snd.fst.val.fst.snd.fst, ()), aDv.snd.snd.fst.val.snd.fst, ()) aDv.snd.snd.fst.subs, ()), (cDv.fst,
  cDv.snd.fst, Rose.node ((cDv.snd.snd.fst.val.fst.fst, cDv.snd.snd.fst.val.fst.snd.fst, ()), cDv.snd.snd.fst.val.snd.fst, ()) cDv.snd.snd.fst.subs, ()), true) = (aDv, cDv, true))
  ∧ ((aDv.fst, aDv.snd.fst, Rose.node ((aDv.snd.snd.fst.val.fst.fst, aDv.snd.snd.fst.val.fst.snd.fst, ()), aDv.snd.snd.fst.val.snd.fst, ()) aDv.snd.snd.fst.subs, ()), (cDv.fst,
  cDv.snd.fst, Rose.node ((cDv.snd.snd.fst.val.fst.fst, cDv.snd.snd.fst.val.fst.snd.fst, ()), cDv.snd.snd.fst.val.snd.fst, ()) cDv.snd.snd.fst.subs, ()), true) = (aDv, cDv, true))
  ∧ (((aDv.fst, aDv.snd.fst, Rose.node ((aDv.snd.snd.fst.val.fst.fst, aDv.snd.snd.fst.val.fst.snd.fst, ()), aDv.snd.snd.fst.val.snd.fst, ()) aDv.snd.snd.fst.subs, ()), (cDv.fst,
  cDv.snd.fst, Rose.node ((cDv.snd.snd.fst.val.fst.fst, cDv.snd.snd.fst.val.fst.snd.fst, ()), cDv.snd.snd.fst.val.snd.fst, ()) cDv.snd.snd.fst.subs, ()), true) = (aDv, cDv, true) ∧
  ((aDv.fst, aDv.snd.fst, Rose.node ((aDv.snd.snd.fst.val.fst.fst, aDv.snd.snd.fst.val.fst.snd.fst, ()), aDv.snd.snd.fst.val.snd.fst, ()) aDv.snd.snd.fst.subs, ()), (cDv.fst,
  cDv.snd.fst, Rose.node ((cDv.snd.snd.fst.val.fst.fst, cDv.snd.snd.fst.val.fst.snd.fst, ()), cDv.snd.snd.fst.val.snd.fst, ()) cDv.snd.snd.fst.subs, ()), true) = (aDv, cDv, true))
  ∧ ((aDv.fst, aDv.snd.fst, Rose.node ((aDv.snd.snd.fst.val.fst.fst, aDv.snd.snd.fst.val.fst.snd.fst, ()), aDv.snd.snd.fst.val.snd.fst, ()) aDv.snd.snd.fst.subs, ()), (cDv.fst,
  cDv.snd.fst, Rose.node ((cDv.snd.snd.fst.val.fst.fst, cDv.snd.snd.fst.val.fst.snd.fst, ()), cDv.snd.snd.fst.val.snd.fst, ()) cDv.snd.snd.fst.subs, ()), true) = (aDv, cDv, true))
  ∧ (((((aDv.fst, aDv.snd.fst, Rose.node ((aDv.snd.snd.fst.val.fst.fst, aDv.snd.snd.fst.val.fst.snd.fst, ()), aDv.snd.snd.fst.val.snd.fst, ()) aDv.snd.snd.fst.subs, ()), (cDv.fst,
  cDv.snd.fst, Rose.node ((cDv.snd.snd.fst.val.fst.fst, cDv.snd.snd.fst.val.fst.snd.fst, ()), cDv.snd.snd.fst.val.snd.fst, ()) cDv.snd.snd.fst.subs, ()), true) = (aDv, cDv, true) ∧
  ((aDv.fst, aDv.snd.fst, Rose.node ((aDv.snd.snd.fst.val.fst.fst, aDv.snd.snd.fst.val.fst.snd.fst, ()), aDv.snd.snd.fst.val.snd.fst, ()) aDv.snd.snd.fst.subs, ()), (cDv.fst,
  cDv.snd.fst, Rose.node ((cDv.snd.snd.fst.val.fst.fst, cDv.snd.snd.fst.val.fst.snd.fst, ()), cDv.snd.snd.fst.val.snd.fst, ()) cDv.snd.snd.fst.subs, ()), true) = (aDv, cDv, true))
  ∧ ((aDv.fst, aDv.snd.fst, Rose.node ((aDv.snd.snd.fst.val.fst.fst, aDv.snd.snd.fst.val.fst.snd.fst, ()), aDv.snd.snd.fst.val.snd.fst, ()) aDv.snd.snd.fst.subs, ()), (cDv.fst,
  cDv.snd.fst, Rose.node ((cDv.snd.snd.fst.val.fst.fst, cDv.snd.snd.fst.val.fst.snd.fst, ()), cDv.snd.snd.fst.val.snd.fst, ()) cDv.snd.snd.fst.subs, ()), true) = (aDv, cDv, true))
  ∧ ((aDv.fst, aDv.snd.fst, Rose.node ((aDv.snd.snd.fst.val.fst.fst, aDv.snd.snd.fst.val.fst.snd.fst, ()), aDv.snd.snd.fst.val.snd.fst, ()) aDv.snd.snd.fst.subs, ()), (cDv.fst,
  cDv.snd.fst, Rose.node ((cDv.snd.snd.fst.val.fst.fst, cDv.snd.snd.fst.val.fst.snd.fst, ()), cDv.snd.snd.fst.val.snd.fst, ()) cDv.snd.snd.fst.subs, ()), true) = (aDv, cDv, true))
  ∧ ((((aDv.fst, aDv.snd.fst, Rose.node ((aDv.snd.snd.fst.val.fst.fst, aDv.snd.snd.fst.val.fst.snd.fst, ()), aDv.snd.snd.fst.val.snd.fst, ()) aDv.snd.snd.fst.subs, ()), (cDv.fst,
  cDv.snd.fst, Rose.node ((cDv.snd.snd.fst.val.fst.fst, cDv.snd.snd.fst.val.fst.snd.fst, ()), cDv.snd.snd.fst.val.snd.fst, ()) cDv.snd.snd.fst.subs, ()), true) = (aDv, cDv, true) ∧
  ((aDv.fst, aDv.snd.fst, Rose.node ((aDv.snd.snd.fst.val.fst.fst, aDv.snd.snd.fst.val.fst.snd.fst, ()), aDv.snd.snd.fst.val.snd.fst, ()) aDv.snd.snd.fst.subs, ()), (cDv.fst,
  cDv.snd.fst, Rose.node ((cDv.snd.snd.fst.val.fst.fst, cDv.snd.snd.fst.val.fst.snd.fst, ()), cDv.snd.snd.fst.val.snd.fst, ()) cDv.snd.snd.fst.subs, ()), true) = (aDv, cDv, true))
  ∧ ((aDv.fst, aDv.snd.fst, Rose.node ((aDv.snd.snd.fst.val.fst.fst, aDv.snd.snd.fst.val.fst.snd.fst, ()), aDv.snd.snd.fst.val.snd.fst, ()) aDv.snd.snd.fst.subs, ()), (cDv.fst,
  cDv.snd.fst, Rose.node ((cDv.snd.snd.fst.val.fst.fst, cDv.snd.snd.fst.val.fst.snd.fst, ()), cDv.snd.snd.fst.val.snd.fst, ()) cDv.snd.snd.fst.subs, ()), true) = (aDv, cDv, true))
  ∧ (((aDv.fst, aDv.snd.fst, Rose.node ((aDv.snd.snd.fst.val.fst.fst, aDv.snd.snd.fst.val.fst.snd.fst, ()), aDv.snd.snd.fst.val.snd.fst, ()) aDv.snd.snd.fst.subs, ()), (cDv.fst,
  cDv.snd.fst, Rose.node ((cDv.snd.snd.fst.val.fst.fst, cDv.snd.snd.fst.val.fst.snd.fst, ()), cDv.snd.snd.fst.val.snd.fst, ()) cDv.snd.snd.fst.subs, ()), true) = (aDv, cDv, true) ∧
  ((aDv.fst, aDv.snd.fst, Rose.node ((aDv.snd.snd.fst.val.fst.fst, aDv.snd.snd.fst.val.fst.snd.fst, ()), aDv.snd.snd.fst.val.snd.fst, ()) aDv.snd.snd.fst.subs, ()), (cDv.fst,
  cDv.snd.fst, Rose.node ((cDv.snd.snd.fst.val.fst.fst, cDv.snd.snd.fst.val.fst.snd.fst, ()), cDv.snd.snd.fst.val.snd.fst, ()) cDv.snd.snd.fst.subs, ()), true) = (aDv, cDv, true))
  ∧ ((aDv.fst, aDv.snd.fst, Rose.node ((aDv.snd.snd.fst.val.fst.fst, aDv.snd.snd.fst.val.fst.snd.fst, ()), aDv.snd.snd.fst.val.snd.fst, ()) aDv.snd.snd.fst.subs, ()), (cDv.fst,
  cDv.snd.fst, Rose.node ((cDv.snd.snd.fst.val.fst.fst, cDv.snd.snd.fst.val.fst.snd.fst, ()), cDv.snd.snd.fst.val.snd.fst, ()) cDv.snd.snd.fst.subs, ()), true) = (aDv, cDv, true))
  ∧ ((((((aDv.fst, aDv.snd.fst, Rose.node ((aDv.snd.snd.fst.val.fst.fst, aDv.snd.snd.fst.val.fst.snd.fst, ()), aDv.snd.snd.fst.val.snd.fst, ()) aDv.snd.snd.fst.subs, ()), (cDv.fst,
  cDv.snd.fst, Rose.node ((cDv.snd.snd.fst.val.fst.fst, cDv.snd.snd.fst.val.fst.snd.fst, ()), cDv.snd.snd.fst.val.snd.fst, ()) cDv.snd.snd.fst.subs, ()), true) = (aDv, cDv, true) ∧
  ((aDv.fst, aDv.snd.fst, Rose.node ((aDv.snd.snd.fst.val.fst.fst, aDv.snd.snd.fst.val.fst.snd.fst, ()), aDv.snd.snd.fst.val.snd.fst, ()) aDv.snd.snd.fst.subs, ()), (cDv.fst,
  cDv.snd.fst, Rose.node ((cDv.snd.snd.fst.val.fst.fst, cDv.snd.snd.fst.val.fst.snd.fst, ()), cDv.snd.snd.fst.val.snd.fst, ()) cDv.snd.snd.fst.subs, ()), true) = (aDv, cDv, true) ∧
  ((aDv.fst, aDv.snd.fst, Rose.node ((aDv.snd.snd.fst.val.fst.fst, aDv.snd.snd.fst.val.fst.snd.fst, ()), aDv.snd.snd.fst.val.snd.fst, ()) aDv.snd.snd.fst.subs, ()), (cDv.fst,
  cDv.snd.fst, Rose.node ((cDv.snd.snd.fst.val.fst.fst, cDv.snd.snd.fst.val.fst.snd.fst, ()), cDv.snd.snd.fst.val.snd.fst, ()) cDv.snd.snd.fst.subs, ()), true) = (aDv, cDv, true))
  ∧ (((aDv.fst, aDv.snd.fst, Rose.node ((aDv.snd.snd.fst.val.fst.fst, aDv.snd.snd.fst.val.fst.snd.fst, ()), aDv.snd.snd.fst.val.snd.fst, ()) aDv.snd.snd.fst.subs, ()), (cDv.fst,
  cDv.snd.fst, Rose.node ((cDv.snd.snd.fst.val.fst.fst, cDv.snd.snd.fst.val.fst.snd.fst, ()), cDv.snd.snd.fst.val.snd.fst, ()) cDv.snd.snd.fst.subs, ()), true) = (aDv, cDv, true) ∧
  ((aDv.fst, aDv.snd.fst, Rose.node ((aDv.snd.snd.fst.val.fst.fst, aDv.snd.snd.fst.val.fst.snd.fst, ()), aDv.snd.snd.fst.val.snd.fst, ()) aDv.snd.snd.fst.subs, ()), (cDv.fst,
  cDv.snd.fst, Rose.node ((cDv.snd.snd.fst.val.fst.fst, cDv.snd.snd.fst.val.fst.snd.fst, ()), cDv.snd.snd.fst.val.snd.fst, ()) cDv.snd.snd.fst.subs, ()), true) = (aDv, cDv, true))
  ∧ ((aDv.fst, aDv.snd.fst, Rose.node ((aDv.snd.snd.fst.val.fst.fst, aDv.snd.snd.fst.val.fst.snd.fst, ()), aDv.snd.snd.fst.val.snd.fst, ()) aDv.snd.snd.fst.subs, ()), (cDv.fst,
  cDv.snd.fst, Rose.node ((cDv.snd.snd.fst.val.fst.fst, cDv.snd.snd.fst.val.fst.snd.fst, ()), cDv.snd.snd.fst.val.snd.fst, ()) cDv.snd.snd.fst.subs, ()), true) = (aDv, cDv, true))
  ∧ ((((aDv.fst, aDv.snd.fst, Rose.node ((aDv.snd.snd.fst.val.fst.fst, aDv.snd.snd.fst.val.fst.snd.fst, ()), aDv.snd.snd.fst.val.snd.fst, ()) aDv.snd.snd.fst.subs, ()), (cDv.fst,
  cDv.snd.fst, Rose.node ((cDv.snd.snd.fst.val.fst.fst, cDv.snd.snd.fst.val.fst.snd.fst, ()), cDv.snd.snd.fst.val.snd.fst, ()) cDv.snd.snd.fst.subs, ()), true) = (aDv, cDv, true) ∧
  ((aDv.fst, aDv.snd.fst, Rose.node ((aDv.snd.snd.fst.val.fst.fst, aDv.snd.snd.fst.val.fst.snd.fst, ()), aDv.snd.snd.fst.val.snd.fst, ()) aDv.snd.snd.fst.subs, ()), (cDv.fst,
  cDv.snd.fst, Rose.node ((cDv.snd.snd.fst.val.fst.fst, cDv.snd.snd.fst.val.fst.snd.fst, ()), cDv.snd.snd.fst.val.snd.fst, ()) cDv.snd.snd.fst.subs, ()), true) = (aDv, cDv, true))
  ∧ ((aDv.fst, aDv.snd.fst, Rose.node ((aDv.snd.snd.fst.val.fst.fst, aDv.snd.snd.fst.val.fst.snd.fst, ()), aDv.snd.snd.fst.val.snd.fst, ()) aDv.snd.snd.fst.subs, ()), (cDv.fst,
  cDv.snd.fst, Rose.node ((cDv.snd.snd.fst.val.fst.fst, cDv.snd.snd.fst.val.fst.snd.fst, ()), cDv.snd.snd.fst.val.snd.fst, ()) cDv.snd.snd.fst.subs, ()), true) = (aDv, cDv, true))
  ∧ ((aDv.fst, aDv.snd.fst, Rose.node ((aDv.snd.snd.fst.val.fst.fst, aDv.snd.snd.fst.val.fst.snd.fst, ()), aDv.snd.snd.fst.val.snd.fst, ()) aDv.snd.snd.fst.subs, ()), (cDv.fst,
  cDv.snd.fst, Rose.node ((cDv.snd.snd.fst.val.fst.fst, cDv.snd.snd.fst.val.fst.snd.fst, ()), cDv.snd.snd.fst.val.snd.fst, ()) cDv.snd.snd.fst.subs, ()), true) = (aDv, cDv, true))
  ∧ (((((aDv.fst, aDv.snd.fst, Rose.node ((aDv.snd.snd.fst.val.fst.fst, aDv.snd.snd.fst.val.fst.snd.fst, ()), aDv.snd.snd.fst.val.snd.fst, ()) aDv.snd.snd.fst.subs, ()), (cDv.fst,
  cDv.snd.fst, Rose.node ((cDv.snd.snd.fst.val.fst.fst, cDv.snd.snd.fst.val.fst.snd.fst, ()), cDv.snd.snd.fst.val.snd.fst, ()) cDv.snd.snd.fst.subs, ()), true) = (aDv, cDv, true) ∧
  ((aDv.fst, aDv.snd.fst, Rose.node ((aDv.snd.snd.fst.val.fst.fst, aDv.snd.snd.fst.val.fst.snd.fst, ()), aDv.snd.snd.fst.val.snd.fst, ()) aDv.snd.snd.fst.subs, ()), (cDv.fst,
  cDv.snd.fst, Rose.node ((cDv.snd.snd.fst.val.fst.fst, cDv.snd.snd.fst.val.fst.snd.fst, ()), cDv.snd.snd.fst.val.snd.fst, ()) cDv.snd.snd.fst.subs, ()), true) = (aDv, cDv, true) ∧
  ((aDv.fst, aDv.snd.fst, Rose.node ((aDv.snd.snd.fst.val.fst.fst, aDv.snd.snd.fst.val.fst.snd.fst, ()), aDv.snd.snd.fst.val.snd.fst, ()) aDv.snd.snd.fst.subs, ()), (cDv.fst,
  cDv.snd.fst, Rose.node ((cDv.snd.snd.fst.val.fst.fst, cDv.snd.snd.fst.val.fst.snd.fst, ()), cDv.snd.snd.fst.val.snd.fst, ()) cDv.snd.snd.fst.subs, ()), true) = (aDv, cDv, true))
  ∧ (((aDv.fst, aDv.snd.fst, Rose.node ((aDv.snd.snd.fst.val.fst.fst, aDv.snd.snd.fst.val.fst.snd.fst, ()), aDv.snd.snd.fst.val.snd.fst, ()) aDv.snd.snd.fst.subs, ()), (cDv.fst,
  cDv.snd.fst, Rose.node ((cDv.snd.snd.fst.val.fst.fst, cDv.snd.snd.fst.val.fst.snd.fst, ()), cDv.snd.snd.fst.val.snd.fst, ()) cDv.snd.snd.fst.subs, ()), true) = (aDv, cDv, true) ∧
  ((aDv.fst, aDv.snd.fst, Rose.node ((aDv.snd.snd.fst.val.fst.fst, aDv.snd.snd.fst.val.fst.snd.fst, ()), aDv.snd.snd.fst.val.snd.fst, ()) aDv.snd.snd.fst.subs, ()), (cDv.fst,
  cDv.snd.fst, Rose.node ((cDv.snd.snd.fst.val.fst.fst, cDv.snd.snd.fst.val.fst.snd.fst, ()), cDv.snd.snd.fst.val.snd.fst, ()) cDv.snd.snd.fst.subs, ()), true) = (aDv, cDv, true))
  ∧ ((aDv.fst, aDv.snd.fst, Rose.node ((aDv.snd.snd.fst.val.fst.fst, aDv.snd.snd.fst.val.fst.snd.fst, ()), aDv.snd.snd.fst.val.snd.fst, ()) aDv.snd.snd.fst.subs, ()), (cDv.fst,
  cDv.snd.fst, Rose.node ((cDv.snd.snd.fst.val.fst.fst, cDv.snd.snd.fst.val.fst.snd.fst, ()), cDv.snd.snd.fst.val.snd.fst, ()) cDv.snd.snd.fst.subs, ()), true) = (aDv, cDv, true))
  ∧ ((((aDv.fst, aDv.snd.fst, Rose.node ((aDv.snd.snd.fst.val.fst.fst, aDv.snd.snd.fst.val.fst.snd.fst, ()), aDv.snd.snd.fst.val.snd.fst, ()) aDv.snd.snd.fst.subs, ()), (cDv.fst,
  cDv.snd.fst, Rose.node ((cDv.snd.snd.fst.val.fst.fst, cDv.snd.snd.fst.val.fst.snd.fst, ()), cDv.snd.snd.fst.val.snd.fst, ()) cDv.snd.snd.fst.subs, ()), true) = (aDv, cDv, true) ∧
  ((aDv.fst, aDv.snd.fst, Rose.node ((aDv.snd.snd.fst.val.fst.fst, aDv.snd.snd.fst.val.fst.snd.fst, ()), aDv.snd.snd.fst.val.snd.fst, ()) aDv.snd.snd.fst.subs, ()), (cDv.fst,
  cDv.snd.fst, Rose.node ((cDv.snd.snd.fst.val.fst.fst, cDv.snd.snd.fst.val.fst.snd.fst, ()), cDv.snd.snd.fst.val.snd.fst, ()) cDv.snd.snd.fst.subs, ()), true) = (aDv, cDv, true))
  ∧ ((aDv.fst, aDv.snd.fst, Rose.node ((aDv.snd.snd.fst.val.fst.fst, aDv.snd.snd.fst.val.fst.snd.fst, ()), aDv.snd.snd.fst.val.snd.fst, ()) aDv.snd.snd.fst.subs, ()), (cDv.fst,
  cDv.snd.fst, Rose.node ((cDv.snd.snd.fst.val.fst.fst, cDv.snd.snd.fst.val.fst.snd.fst, ()), cDv.snd.snd.fst.val.snd.fst, ()) cDv.snd.snd.fst.subs, ()), true) = (aDv, cDv, true))
  ∧ ((aDv.fst, aDv.snd.fst, Rose.node ((aDv.snd.snd.fst.val.fst.fst, aDv.snd.snd.fst.val.fst.snd.fst, ()), aDv.snd.snd.fst.val.snd.fst, ()) aDv.snd.snd.fst.subs, ()), (cDv.fst,
  cDv.snd.fst, Rose.node ((cDv.snd.snd.fst.val.fst.fst, cDv.snd.snd.fst.val.fst.snd.fst, ()), cDv.snd.snd.fst.val.snd.fst, ()) cDv.snd.snd.fst.subs, ()), true) = (aDv, cDv, true))
  ∧ (((((aDv.fst, aDv.snd.fst, Rose.node ((aDv.snd.snd.fst.val.fst.fst, aDv.snd.snd.fst.val.fst.snd.fst, ()), aDv.snd.snd.fst.val.snd.fst, ()) aDv.snd.snd.fst.subs, ()), (cDv.fst,
  cDv.snd.fst, Rose.node ((cDv.snd.snd.fst.val.fst.fst, cDv.snd.snd.fst.val.fst.snd.fst, ()), cDv.snd.snd.fst.val.snd.fst, ()) cDv.snd.snd.fst.subs, ()), true) = (aDv, cDv, true) ∧
  ((aDv.fst, aDv.snd.fst, Rose.node ((aDv.snd.snd.fst.val.fst.fst, aDv.snd.snd.fst.val.fst.snd.fst, ()), aDv.snd.snd.fst.val.snd.fst, ()) aDv.snd.snd.fst.subs, ()), (cDv.fst,
  cDv.snd.fst, Rose.node ((cDv.snd.snd.fst.val.fst.fst, cDv.snd.snd.fst.val.fst.snd.fst, ()), cDv.snd.snd.fst.val.snd.fst, ()) cDv.snd.snd.fst.subs, ()), true) = (aDv, cDv, true) ∧
  ((aDv.fst, aDv.snd.fst, Rose.node ((aDv.snd.snd.fst.val.fst.fst, aDv.snd.snd.fst.val.fst.snd.fst, ()), aDv.snd.snd.fst.val.snd.fst, ()) aDv.snd.snd.fst.subs, ()), (cDv.fst,
  cDv.snd.fst, Rose.node ((cDv.snd.snd.fst.val.fst.fst, cDv.snd.snd.fst.val.fst.snd.fst, ()), cDv.snd.snd.fst.val.snd.fst, ()) cDv.snd.snd.fst.subs, ()), true) = (aDv, cDv, true))
  ∧ (((aDv.fst, aDv.snd.fst, Rose.node ((aDv.snd.snd.fst.val.fst.fst, aDv.snd.snd.fst.val.fst.snd.fst, ()), aDv.snd.snd.fst.val.snd.fst, ()) aDv.snd.snd.fst.subs, ()), (cDv.fst,
  cDv.snd.fst, Rose.node ((cDv.snd.snd.fst.val.fst.fst, cDv.snd.snd.fst.val.fst.snd.fst, ()), cDv.snd.snd.fst.val.snd.fst, ()) cDv.snd.snd.fst.subs, ()), true) = (aDv, cDv, true) ∧
  ((aDv.fst, aDv.snd.fst, Rose.node ((aDv.snd.snd.fst.val.fst.fst, aDv.snd.snd.fst.val.fst.snd.fst, ()), aDv.snd.snd.fst.val.snd.fst, ()) aDv.snd.snd.fst.subs, ()), (cDv.fst,
  cDv.snd.fst, Rose.node ((cDv.snd.snd.fst.val.fst.fst, cDv.snd.snd.fst.val.fst.snd.fst, ()), cDv.snd.snd.fst.val.snd.fst, ()) cDv.snd.snd.fst.subs, ()), true) = (aDv, cDv, true))
  ∧ ((aDv.fst, aDv.snd.fst, Rose.node ((aDv.snd.snd.fst.val.fst.fst, aDv.snd.snd.fst.val.fst.snd.fst, ()), aDv.snd.snd.fst.val.snd.fst, ()) aDv.snd.snd.fst.subs, ()), (cDv.fst,
  cDv.snd.fst, Rose.node ((cDv.snd.snd.fst.val.fst.fst, cDv.snd.snd.fst.val.fst.snd.fst, ()), cDv.snd.snd.fst.val.snd.fst, ()) cDv.snd.snd.fst.subs, ()), true) = (aDv, cDv, true))
  ∧ ((((aDv.fst, aDv.snd.fst, Rose.node ((aDv.snd.snd.fst.val.fst.fst, aDv.snd.snd.fst.val.fst.snd.fst, ()), aDv.snd.snd.fst.val.snd.fst, ()) aDv.snd.snd.fst.subs, ()), (cDv.fst,
  cDv.snd.fst, Rose.node ((cDv.snd.snd.fst.val.fst.fst, cDv.snd.snd.fst.val.fst.snd.fst, ()), cDv.snd.snd.fst.val.snd.fst, ()) cDv.snd.snd.fst.subs, ()), true) = (aDv, cDv, true) ∧
  ((aDv.fst, aDv.snd.fst, Rose.node ((aDv.snd.snd.fst.val.fst.fst, aDv.snd.snd.fst.val.fst.snd.fst, ()), aDv.snd.snd.fst.val.snd.fst, ()) aDv.snd.snd.fst.subs, ()), (cDv.fst,
  cDv.snd.fst, Rose.node ((cDv.snd.snd.fst.val.fst.fst, cDv.snd.snd.fst.val.fst.snd.fst, ()), cDv.snd.snd.fst.val.snd.fst, ()) cDv.snd.snd.fst.subs, ()), true) = (aDv, cDv, true))
  ∧ ((aDv.fst, aDv.snd.fst, Rose.node ((aDv.snd.snd.fst.val.fst.fst, aDv.snd.snd.fst.val.fst.snd.fst, ()), aDv.snd.snd.fst.val.snd.fst, ()) aDv.snd.snd.fst.subs, ()), (cDv.fst,
  cDv.snd.fst, Rose.node ((cDv.snd.snd.fst.val.fst.fst, cDv.snd.snd.fst.val.fst.snd.fst, ()), cDv.snd.snd.fst.val.snd.fst, ()) cDv.snd.snd.fst.subs, ()), true) = (aDv, cDv, true))
  ∧ ((aDv.fst, aDv.snd.fst, Rose.node ((aDv.snd.snd.fst.val.fst.fst, aDv.snd.snd.fst.val.fst.snd.fst, ()), aDv.snd.snd.fst.val.snd.fst, ()) aDv.snd.snd.fst.subs, ()), (cDv.fst,
  cDv.snd.fst, Rose.node ((cDv.snd.snd.fst.val.fst.fst, cDv.snd.snd.fst.val.fst.snd.fst, ()), cDv.snd.snd.fst.val.snd.fst, ()) cDv.snd.snd.fst.subs, ()), true) = (aDv, cDv, true))
  ∧ ((((aDv.fst, aDv.snd.fst, Rose.node ((aDv.snd.snd.fst.val.fst.fst, aDv.snd.snd.fst.val.fst.snd.fst, ()), aDv.snd.snd.fst.val.snd.fst, ()) aDv.snd.snd.fst.subs, ()), (cDv.fst,
  cDv.snd.fst, Rose.node ((cDv.snd.snd.fst.val.fst.fst, cDv.snd.snd.fst.val.fst.snd.fst, ()), cDv.snd.snd.fst.val.snd.fst, ()) cDv.snd.snd.fst.subs, ()), true) = (aDv, cDv, true) ∧
  ((aDv.fst, aDv.snd.fst, Rose.node ((aDv.snd.snd.fst.val.fst.fst, aDv.snd.snd.fst.val.fst.snd.fst, ()), aDv.snd.snd.fst.val.snd.fst, ()) aDv.snd.snd.fst.subs, ()), (cDv.fst,
  cDv.snd.fst, Rose.node ((cDv.snd.snd.fst.val.fst.fst, cDv.snd.snd.fst.val.fst.snd.fst, ()), cDv.snd.snd.fst.val.snd.fst, ()) cDv.snd.snd.fst.subs, ()), true) = (aDv, cDv, true) ∧
  ((aDv.fst, aDv.snd.fst, Rose.node ((aDv.snd.snd.fst.val.fst.fst, aDv.snd.snd.fst.val.fst.snd.fst, ()), aDv.snd.snd.fst.val.snd.fst, ()) aDv.snd.snd.fst.subs, ()), (cDv.fst,
  cDv.snd.fst, Rose.node ((cDv.snd.snd.fst.val.fst.fst, cDv.snd.snd.fst.val.fst.snd.fst, ()), cDv.snd.snd.fst.val.snd.fst, ()) cDv.snd.snd.fst.subs, ()), true) = (aDv, cDv, true))
  ∧ (((aDv.fst, aDv.snd.fst, Rose.node ((aDv.snd.snd.fst.val.fst.fst, aDv.snd.snd.fst.val.fst.snd.fst, ()), aDv.snd.snd.fst.val.snd.fst, ()) aDv.snd.snd.fst.subs, ()), (cDv.fst,
  cDv.snd.fst, Rose.node ((cDv.snd.snd.fst.val.fst.fst, cDv.snd.snd.fst.val.fst.snd.fst, ()), cDv.snd.snd.fst.val.snd.fst, ()) cDv.snd.snd.fst.subs, ()), true) = (aDv, cDv, true) ∧
  ((aDv.fst, aDv.snd.fst, Rose.node ((aDv.snd.snd.fst.val.fst.fst, aDv.snd.snd.fst.val.fst.snd.fst, ()), aDv.snd.snd.fst.val.snd.fst, ()) aDv.snd.snd.fst.subs, ()), (cDv.fst,
  cDv.snd.fst, Rose.node ((cDv.snd.snd.fst.val.fst.fst, cDv.snd.snd.fst.val.fst.snd.fst, ()), cDv.snd.snd.fst.val.snd.fst, ()) cDv.snd.snd.fst.subs, ()), true) = (aDv, cDv, true))
  ∧ ((aDv.fst, aDv.snd.fst, Rose.node ((aDv.snd.snd.fst.val.fst.fst, aDv.snd.snd.fst.val.fst.snd.fst, ()), aDv.snd.snd.fst.val.snd.fst, ()) aDv.snd.snd.fst.subs, ()), (cDv.fst,
  cDv.snd.fst, Rose.node ((cDv.snd.snd.fst.val.fst.fst, cDv.snd.snd.fst.val.fst.snd.fst, ()), cDv.snd.snd.fst.val.snd.fst, ()) cDv.snd.snd.fst.subs, ()), true) = (aDv, cDv, true))
  ∧ (((aDv.fst, aDv.snd.fst, Rose.node ((aDv.snd.snd.fst.val.fst.fst, aDv.snd.snd.fst.val.fst.snd.fst, ()), aDv.snd.snd.fst.val.snd.fst, ()) aDv.snd.snd.fst.subs, ()), (cDv.fst,
  cDv.snd.fst, Rose.node ((cDv.snd.snd.fst.val.fst.fst, cDv.snd.snd.fst.val.fst.snd.fst, ()), cDv.snd.snd.fst.val.snd.fst, ()) cDv.snd.snd.fst.subs, ()), true) = (aDv, cDv, true) ∧
  ((aDv.fst, aDv.snd.fst, Rose.node ((aDv.snd.snd.fst.val.fst.fst, aDv.snd.snd.fst.val.fst.snd.fst, ()), aDv.snd.snd.fst.val.snd.fst, ()) aDv.snd.snd.fst.subs, ()), (cDv.fst,
  cDv.snd.fst, Rose.node ((cDv.snd.snd.fst.val.fst.fst, cDv.snd.snd.fst.val.fst.snd.fst, ()), cDv.snd.snd.fst.val.snd.fst, ()) cDv.snd.snd.fst.subs, ()), true) = (aDv, cDv, true) ∧
  ((aDv.fst, aDv.snd.fst, Rose.node ((aDv.snd.snd.fst.val.fst.fst, aDv.snd.snd.fst.val.fst.snd.fst, ()), aDv.snd.snd.fst.val.snd.fst, ()) aDv.snd.snd.fst.subs, ()), (cDv.fst,
  cDv.snd.fst, Rose.node ((cDv.snd.snd.fst.val.fst.fst, cDv.snd.snd.fst.val.fst.snd.fst, ()), cDv.snd.snd.fst.val.snd.fst, ()) cDv.snd.snd.fst.subs, ()), true) = (aDv, cDv, true))
  ∧ ((aDv.fst, aDv.snd.fst, Rose.node ((aDv.snd.snd.fst.val.fst.fst, aDv.snd.snd.fst.val.fst.snd.fst, ()), aDv.snd.snd.fst.val.snd.fst, ()) aDv.snd.snd.fst.subs, ()), (cDv.fst,
  cDv.snd.fst, Rose.node ((cDv.snd.snd.fst.val.fst.fst, cDv.snd.snd.fst.val.fst.snd.fst, ()), cDv.snd.snd.fst.val.snd.fst, ()) cDv.snd.snd.fst.subs, ()), true) = (aDv, cDv, true))
  ∧ ((((((aDv.fst, aDv.snd.fst, Rose.node ((aDv.snd.snd.fst.val.fst.fst, aDv.snd.snd.fst.val.fst.snd.fst, ()), aDv.snd.snd.fst.val.snd.fst, ()) aDv.snd.snd.fst.subs, ()), (cDv.fst,
  cDv.snd.fst, Rose.node ((cDv.snd.snd.fst.val.fst.fst, cDv.snd.snd.fst.val.fst.snd.fst, ()), cDv.snd.snd.fst.val.snd.fst, ()) cDv.snd.snd.fst.subs, ()), true) = (aDv, cDv, true) ∧
  ((aDv.fst, aDv.snd.fst, Rose.node ((aDv.snd.snd.fst.val.fst.fst, aDv.snd.snd.fst.val.fst.snd.fst, ()), aDv.snd.snd.fst.val.snd.fst, ()) aDv.snd.snd.fst.subs, ()), (cDv.fst,
  cDv.snd.fst, Rose.node ((cDv.snd.snd.fst.val.fst.fst, cDv.snd.snd.fst.val.fst.snd.fst, ()), cDv.snd.snd.fst.val.snd.fst, ()) cDv.snd.snd.fst.subs, ()), true) = (aDv, cDv, true) ∧
  ((aDv.fst, aDv.snd.fst, Rose.node ((aDv.snd.snd.fst.val.fst.fst, aDv.snd.snd.fst.val.fst.snd.fst, ()), aDv.snd.snd.fst.val.snd.fst, ()) aDv.snd.snd.fst.subs, ()), (cDv.fst,
  cDv.snd.fst, Rose.node ((cDv.snd.snd.fst.val.fst.fst, cDv.snd.snd.fst.val.fst.snd.fst, ()), cDv.snd.snd.fst.val.snd.fst, ()) cDv.snd.snd.fst.subs, ()), true) = (aDv, cDv, true))
  ∧ (((aDv.fst, aDv.snd.fst, Rose.node ((aDv.snd.snd.fst.val.fst.fst, aDv.snd.snd.fst.val.fst.snd.fst, ()), aDv.snd.snd.fst.val.snd.fst, ()) aDv.snd.snd.fst.subs, ()), (cDv.fst,
  cDv.snd.fst, Rose.node ((cDv.snd.snd.fst.val.fst.fst, cDv.snd.snd.fst.val.fst.snd.fst, ()), cDv.snd.snd.fst.val.snd.fst, ()) cDv.snd.snd.fst.subs, ()), true) = (aDv, cDv, true) ∧
  ((aDv.fst, aDv.snd.fst, Rose.node ((aDv.snd.snd.fst.val.fst.fst, aDv.snd.snd.fst.val.fst.snd.fst, ()), aDv.snd.snd.fst.val.snd.fst, ()) aDv.snd.snd.fst.subs, ()), (cDv.fst,
  cDv.snd.fst, Rose.node ((cDv.snd.snd.fst.val.fst.fst, cDv.snd.snd.fst.val.fst.snd.fst, ()), cDv.snd.snd.fst.val.snd.fst, ()) cDv.snd.snd.fst.subs, ()), true) = (aDv, cDv, true))
  ∧ ((aDv.fst, aDv.snd.fst, Rose.node ((aDv.snd.snd.fst.val.fst.fst, aDv.snd.snd.fst.val.fst.snd.fst, ()), aDv.snd.snd.fst.val.snd.fst, ()) aDv.snd.snd.fst.subs, ()), (cDv.fst,
  cDv.snd.fst, Rose.node ((cDv.snd.snd.fst.val.fst.fst, cDv.snd.snd.fst.val.fst.snd.fst, ()), cDv.snd.snd.fst.val.snd.fst, ()) cDv.snd.snd.fst.subs, ()), true) = (aDv, cDv, true))
  ∧ ((((aDv.fst, aDv.snd.fst, Rose.node ((aDv.snd.snd.fst.val.fst.fst, aDv.snd.snd.fst.val.fst.snd.fst, ()), aDv.snd.snd.fst.val.snd.fst, ()) aDv.snd.snd.fst.subs, ()), (cDv.fst,
  cDv.snd.fst, Rose.node ((cDv.snd.snd.fst.val.fst.fst, cDv.snd.snd.fst.val.fst.snd.fst, ()), cDv.snd.snd.fst.val.snd.fst, ()) cDv.snd.snd.fst.subs, ()), true) = (aDv, cDv, true) ∧
  ((aDv.fst, aDv.snd.fst, Rose.node ((aDv.snd.snd.fst.val.fst.fst, aDv.snd.snd.fst.val.fst.snd.fst, ()), aDv.snd.snd.fst.val.snd.fst, ()) aDv.snd.snd.fst.subs, ()), (cDv.fst,
  cDv.snd.fst, Rose.node ((cDv.snd.snd.fst.val.fst.fst, cDv.snd.snd.fst.val.fst.snd.fst, ()), cDv.snd.snd.fst.val.snd.fst, ()) cDv.snd.snd.fst.subs, ()), true) = (aDv, cDv, true))
  ∧ ((aDv.fst, aDv.snd.fst, Rose.node ((aDv.snd.snd.fst.val.fst.fst, aDv.snd.snd.fst.val.fst.snd.fst, ()), aDv.snd.snd.fst.val.snd.fst, ()) aDv.snd.snd.fst.subs, ()), (cDv.fst,
  cDv.snd.fst, Rose.node ((cDv.snd.snd.fst.val.fst.fst, cDv.snd.snd.fst.val.fst.snd.fst, ()), cDv.snd.snd.fst.val.snd.fst, ()) cDv.snd.snd.fst.subs, ()), true) = (aDv, cDv, true))
  ∧ ((aDv.fst, aDv.snd.fst, Rose.node ((aDv.snd.snd.fst.val.fst.fst, aDv.snd.snd.fst.val.fst.snd.fst, ()), aDv.snd.snd.fst.val.snd.fst, ()) aDv.snd.snd.fst.subs, ()), (cDv.fst,
  cDv.snd.fst, Rose.node ((cDv.snd.snd.fst.val.fst.fst, cDv.snd.snd.fst.val.fst.snd.fst, ()), cDv.snd.snd.fst.val.snd.fst, ()) cDv.snd.snd.fst.subs, ()), true) = (aDv, cDv, true))
  ∧ (((((aDv.fst, aDv.snd.fst, Rose.node ((aDv.snd.snd.fst.val.fst.fst, aDv.snd.snd.fst.val.fst.snd.fst, ()), aDv.snd.snd.fst.val.snd.fst, ()) aDv.snd.snd.fst.subs, ()), (cDv.fst,
  cDv.snd.fst, Rose.node ((cDv.snd.snd.fst.val.fst.fst, cDv.snd.snd.fst.val.fst.snd.fst, ()), cDv.snd.snd.fst.val.snd.fst, ()) cDv.snd.snd.fst.subs, ()), true) = (aDv, cDv, true) ∧
  ((aDv.fst, aDv.snd.fst, Rose.node ((aDv.snd.snd.fst.val.fst.fst, aDv.snd.snd.fst.val.fst.snd.fst, ()), aDv.snd.snd.fst.val.snd.fst, ()) aDv.snd.snd.fst.subs, ()), (cDv.fst,
  cDv.snd.fst, Rose.node ((cDv.snd.snd.fst.val.fst.fst, cDv.snd.snd.fst.val.fst.snd.fst, ()), cDv.snd.snd.fst.val.snd.fst, ()) cDv.snd.snd.fst.subs, ()), true) = (aDv, cDv, true) ∧
  ((aDv.fst, aDv.snd.fst, Rose.node ((aDv.snd.snd.fst.val.fst.fst, aDv.snd.snd.fst.val.fst.snd.fst, ()), aDv.snd.snd.fst.val.snd.fst, ()) aDv.snd.snd.fst.subs, ()), (cDv.fst,
  cDv.snd.fst, Rose.node ((cDv.snd.snd.fst.val.fst.fst, cDv.snd.snd.fst.val.fst.snd.fst, ()), cDv.snd.snd.fst.val.snd.fst, ()) cDv.snd.snd.fst.subs, ()), true) = (aDv, cDv, true))
  ∧ (((aDv.fst, aDv.snd.fst, Rose.node ((aDv.snd.snd.fst.val.fst.fst, aDv.snd.snd.fst.val.fst.snd.fst, ()), aDv.snd.snd.fst.val.snd.fst, ()) aDv.snd.snd.fst.subs, ()), (cDv.fst,
  cDv.snd.fst, Rose.node ((cDv.snd.snd.fst.val.fst.fst, cDv.snd.snd.fst.val.fst.snd.fst, ()), cDv.snd.snd.fst.val.snd.fst, ()) cDv.snd.snd.fst.subs, ()), true) = (aDv, cDv, true) ∧
  ((aDv.fst, aDv.snd.fst, Rose.node ((aDv.snd.snd.fst.val.fst.fst, aDv.snd.snd.fst.val.fst.snd.fst, ()), aDv.snd.snd.fst.val.snd.fst, ()) aDv.snd.snd.fst.subs, ()), (cDv.fst,
  cDv.snd.fst, Rose.node ((cDv.snd.snd.fst.val.fst.fst, cDv.snd.snd.fst.val.fst.snd.fst, ()), cDv.snd.snd.fst.val.snd.fst, ()) cDv.snd.snd.fst.subs, ()), true) = (aDv, cDv, true))
  ∧ ((aDv.fst, aDv.snd.fst, Rose.node ((aDv.snd.snd.fst.val.fst.fst, aDv.snd.snd.fst.val.fst.snd.fst, ()), aDv.snd.snd.fst.val.snd.fst, ()) aDv.snd.snd.fst.subs, ()), (cDv.fst,
  cDv.snd.fst, Rose.node ((cDv.snd.snd.fst.val.fst.fst, cDv.snd.snd.fst.val.fst.snd.fst, ()), cDv.snd.snd.fst.val.snd.fst, ()) cDv.snd.snd.fst.subs, ()), true) = (aDv, cDv, true))
  ∧ ((((aDv.fst, aDv.snd.fst, Rose.node ((aDv.snd.snd.fst.val.fst.fst, aDv.snd.snd.fst.val.fst.snd.fst, ()), aDv.snd.snd.fst.val.snd.fst, ()) aDv.snd.snd.fst.subs, ()), (cDv.fst,
  cDv.snd.fst, Rose.node ((cDv.snd.snd.fst.val.fst.fst, cDv.snd.snd.fst.val.fst.snd.fst, ()), cDv.snd.snd.fst.val.snd.fst, ()) cDv.snd.snd.fst.subs, ()), true) = (aDv, cDv, true) ∧
  ((aDv.fst, aDv.snd.fst, Rose.node ((aDv.snd.snd.fst.val.fst.fst, aDv.snd.snd.fst.val.fst.snd.fst, ()), aDv.snd.snd.fst.val.snd.fst, ()) aDv.snd.snd.fst.subs, ()), (cDv.fst,
  cDv.snd.fst, Rose.node ((cDv.snd.snd.fst.val.fst.fst, cDv.snd.snd.fst.val.fst.snd.fst, ()), cDv.snd.snd.fst.val.snd.fst, ()) cDv.snd.snd.fst.subs, ()), true) = (aDv, cDv, true))
  ∧ ((aDv.fst, aDv.snd.fst, Rose.node ((aDv.snd.snd.fst.val.fst.fst, aDv.snd.snd.fst.val.fst.snd.fst, ()), aDv.snd.snd.fst.val.snd.fst, ()) aDv.snd.snd.fst.subs, ()), (cDv.fst,
  cDv.snd.fst, Rose.node ((cDv.snd.snd.fst.val.fst.fst, cDv.snd.snd.fst.val.fst.snd.fst, ()), cDv.snd.snd.fst.val.snd.fst, ()) cDv.snd.snd.fst.subs, ()), true) = (aDv, cDv, true))
  ∧ ((aDv.fst, aDv.snd.fst, Rose.node ((aDv.snd.snd.fst.val.fst.fst, aDv.snd.snd.fst.val.fst.snd.fst, ()), aDv.snd.snd.fst.val.snd.fst, ()) aDv.snd.snd.fst.subs, ()), (cDv.fst,
  cDv.snd.fst, Rose.node ((cDv.snd.snd.fst.val.fst.fst, cDv.snd.snd.fst.val.fst.snd.fst, ()), cDv.snd.snd.fst.val.snd.fst, ()) cDv.snd.snd.fst.subs, ()), true) = (aDv, cDv, true))
  ∧ (((((aDv.fst, aDv.snd.fst, Rose.node ((aDv.snd.snd.fst.val.fst.fst, aDv.snd.snd.fst.val.fst.snd.fst, ()), aDv.snd.snd.fst.val.snd.fst, ()) aDv.snd.snd.fst.subs, ()), (cDv.fst,
  cDv.snd.fst, Rose.node ((cDv.snd.snd.fst.val.fst.fst, cDv.snd.snd.fst.val.fst.snd.fst, ()), cDv.snd.snd.fst.val.snd.fst, ()) cDv.snd.snd.fst.subs, ()), true) = (aDv, cDv, true) ∧
  ((aDv.fst, aDv.snd.fst, Rose.node ((aDv.snd.snd.fst.val.fst.fst, aDv.snd.snd.fst.val.fst.snd.fst, ()), aDv.snd.snd.fst.val.snd.fst, ()) aDv.snd.snd.fst.subs, ()), (cDv.fst,
  cDv.snd.fst, Rose.node ((cDv.snd.snd.fst.val.fst.fst, cDv.snd.snd.fst.val.fst.snd.fst, ()), cDv.snd.snd.fst.val.snd.fst, ()) cDv.snd.snd.fst.subs, ()), true) = (aDv, cDv, true) ∧
  ((aDv.fst, aDv.snd.fst, Rose.node ((aDv.snd.snd.fst.val.fst.fst, aDv.snd.snd.fst.val.fst.snd.fst, ()), aDv.snd.snd.fst.val.snd.fst, ()) aDv.snd.snd.fst.subs, ()), (cDv.fst,
  cDv.snd.fst, Rose.node ((cDv.snd.snd.fst.val.fst.fst, cDv.snd.snd.fst.val.fst.snd.fst, ()), cDv.snd.snd.fst.val.snd.fst, ()) cDv.snd.snd.fst.subs, ()), true) = (aDv, cDv, true))
  ∧ (((aDv.fst, aDv.snd.fst, Rose.node ((aDv.snd.snd.fst.val.fst.fst, aDv.snd.snd.fst.val.fst.snd.fst, ()), aDv.snd.snd.fst.val.snd.fst, ()) aDv.snd.snd.fst.subs, ()), (cDv.fst,
  cDv.snd.fst, Rose.node ((cDv.snd.snd.fst.val.fst.fst, cDv.snd.snd.fst.val.fst.snd.fst, ()), cDv.snd.snd.fst.val.snd.fst, ()) cDv.snd.snd.fst.subs, ()), true) = (aDv, cDv, true) ∧
  ((aDv.fst, aDv.snd.fst, Rose.node ((aDv.snd.snd.fst.val.fst.fst, aDv.snd.snd.fst.val.fst.snd.fst, ()), aDv.snd.snd.fst.val.snd.fst, ()) aDv.snd.snd.fst.subs, ()), (cDv.fst,
  cDv.snd.fst, Rose.node ((cDv.snd.snd.fst.val.fst.fst, cDv.snd.snd.fst.val.fst.snd.fst, ()), cDv.snd.snd.fst.val.snd.fst, ()) cDv.snd.snd.fst.subs, ()), true) = (aDv, cDv, true))
  ∧ ((aDv.fst, aDv.snd.fst, Rose.node ((aDv.snd.snd.fst.val.fst.fst, aDv.snd.snd.fst.val.fst.snd.fst, ()), aDv.snd.snd.fst.val.snd.fst, ()) aDv.snd.snd.fst.subs, ()), (cDv.fst,
  cDv.snd.fst, Rose.node ((cDv.snd.snd.fst.val.fst.fst, cDv.snd.snd.fst.val.fst.snd.fst, ()), cDv.snd.snd.fst.val.snd.fst, ()) cDv.snd.snd.fst.subs, ()), true) = (aDv, cDv, true))
  ∧ ((((aDv.fst, aDv.snd.fst, Rose.node ((aDv.snd.snd.fst.val.fst.fst, aDv.snd.snd.fst.val.fst.snd.fst, ()), aDv.snd.snd.fst.val.snd.fst, ()) aDv.snd.snd.fst.subs, ()), (cDv.fst,
  cDv.snd.fst, Rose.node ((cDv.snd.snd.fst.val.fst.fst, cDv.snd.snd.fst.val.fst.snd.fst, ()), cDv.snd.snd.fst.val.snd.fst, ()) cDv.snd.snd.fst.subs, ()), true) = (aDv, cDv, true) ∧
  ((aDv.fst, aDv.snd.fst, Rose.node ((aDv.snd.snd.fst.val.fst.fst, aDv.snd.snd.fst.val.fst.snd.fst, ()), aDv.snd.snd.fst.val.snd.fst, ()) aDv.snd.snd.fst.subs, ()), (cDv.fst,
  cDv.snd.fst, Rose.node ((cDv.snd.snd.fst.val.fst.fst, cDv.snd.snd.fst.val.fst.snd.fst, ()), cDv.snd.snd.fst.val.snd.fst, ()) cDv.snd.snd.fst.subs, ()), true) = (aDv, cDv, true) ∧
  ((aDv.fst, aDv.snd.fst, Rose.node ((aDv.snd.snd.fst.val.fst.fst, aDv.snd.snd.fst.val.fst.snd.fst, ()), aDv.snd.snd.fst.val.snd.fst, ()) aDv.snd.snd.fst.subs, ()), (cDv.fst,
  cDv.snd.fst, Rose.node ((cDv.snd.snd.fst.val.fst.fst, cDv.snd.snd.fst.val.fst.snd.fst, ()), cDv.snd.snd.fst.val.snd.fst, ()) cDv.snd.snd.fst.subs, ()), true) = (aDv, cDv, true))
  ∧ (((aDv.fst, aDv.snd.fst, Rose.node ((aDv.snd.snd.fst.val.fst.fst, aDv.snd.snd.fst.val.fst.snd.fst, ()), aDv.snd.snd.fst.val.snd.fst, ()) aDv.snd.snd.fst.subs, ()), (cDv.fst,
  cDv.snd.fst, Rose.node ((cDv.snd.snd.fst.val.fst.fst, cDv.snd.snd.fst.val.fst.snd.fst, ()), cDv.snd.snd.fst.val.snd.fst, ()) cDv.snd.snd.fst.subs, ()), true) = (aDv, cDv, true) ∧
  ((aDv.fst, aDv.snd.fst, Rose.node ((aDv.snd.snd.fst.val.fst.fst, aDv.snd.snd.fst.val.fst.snd.fst, ()), aDv.snd.snd.fst.val.snd.fst, ()) aDv.snd.snd.fst.subs, ()), (cDv.fst,
  cDv.snd.fst, Rose.node ((cDv.snd.snd.fst.val.fst.fst, cDv.snd.snd.fst.val.fst.snd.fst, ()), cDv.snd.snd.fst.val.snd.fst, ()) cDv.snd.snd.fst.subs, ()), true) = (aDv, cDv, true))
  ∧ (((aDv.fst, aDv.snd.fst, Rose.node ((aDv.snd.snd.fst.val.fst.fst, aDv.snd.snd.fst.val.fst.snd.fst, ()), aDv.snd.snd.fst.val.snd.fst, ()) aDv.snd.snd.fst.subs, ()), (cDv.fst,
  cDv.snd.fst, Rose.node ((cDv.snd.snd.fst.val.fst.fst, cDv.snd.snd.fst.val.fst.snd.fst, ()), cDv.snd.snd.fst.val.snd.fst, ()) cDv.snd.snd.fst.subs, ()), true) = (aDv, cDv, true) ∧
  ((aDv.fst, aDv.snd.fst, Rose.node ((aDv.snd.snd.fst.val.fst.fst, aDv.snd.snd.fst.val.fst.snd.fst, ()), aDv.snd.snd.fst.val.snd.fst, ()) aDv.snd.snd.fst.subs, ()), (cDv.fst,
  cDv.snd.fst, Rose.node ((cDv.snd.snd.fst.val.fst.fst, cDv.snd.snd.fst.val.fst.snd.fst, ()), cDv.snd.snd.fst.val.snd.fst, ()) cDv.snd.snd.fst.subs, ()), true) = (aDv, cDv, true))
  ∧ ((aDv.fst, aDv.snd.fst, Rose.node ((aDv.snd.snd.fst.val.fst.fst, aDv.snd.snd.fst.val.fst.snd.fst, ()), aDv.snd.snd.fst.val.snd.fst, ()) aDv.snd.snd.fst.subs, ()), (cDv.fst,
  cDv.snd.fst, Rose.node ((cDv.snd.snd.fst.val.fst.fst, cDv.snd.snd.fst.val.fst.snd.fst, ()), cDv.snd.snd.fst.val.snd.fst, ()) cDv.snd.snd.fst.subs, ()), true) = (aDv, cDv, true))
  ∧ ((((aDv.fst, aDv.snd.fst, Rose.node ((aDv.snd.snd.fst.val.fst.fst, aDv.snd.snd.fst.val.fst.snd.fst, ()), aDv.snd.snd.fst.val.snd.fst, ()) aDv.snd.snd.fst.subs, ()), (cDv.fst,
  cDv.snd.fst, Rose.node ((cDv.snd.snd.fst.val.fst.fst, cDv.snd.snd.fst.val.fst.snd.fst, ()), cDv.snd.snd.fst.val.snd.fst, ()) cDv.snd.snd.fst.subs, ()), true) = (aDv, cDv, true) ∧
  ((aDv.fst, aDv.snd.fst, Rose.node ((aDv.snd.snd.fst.val.fst.fst, aDv.snd.snd.fst.val.fst.snd.fst, ()), aDv.snd.snd.fst.val.snd.fst, ()) aDv.snd.snd.fst.subs, ()), (cDv.fst,
  cDv.snd.fst, Rose.node ((cDv.snd.snd.fst.val.fst.fst, cDv.snd.snd.fst.val.fst.snd.fst, ()), cDv.snd.snd.fst.val.snd.fst, ()) cDv.snd.snd.fst.subs, ()), true) = (aDv, cDv, true))
  ∧ ((aDv.fst, aDv.snd.fst, Rose.node ((aDv.snd.snd.fst.val.fst.fst, aDv.snd.snd.fst.val.fst.snd.fst, ()), aDv.snd.snd.fst.val.snd.fst, ()) aDv.snd.snd.fst.subs, ()), (cDv.fst,
  cDv.snd.fst, Rose.node ((cDv.snd.snd.fst.val.fst.fst, cDv.snd.snd.fst.val.fst.snd.fst, ()), cDv.snd.snd.fst.val.snd.fst, ()) cDv.snd.snd.fst.subs, ()), true) = (aDv, cDv, true))
  ∧ (((aDv.fst, aDv.snd.fst, Rose.node ((aDv.snd.snd.fst.val.fst.fst, aDv.snd.snd.fst.val.fst.snd.fst, ()), aDv.snd.snd.fst.val.snd.fst, ()) aDv.snd.snd.fst.subs, ()), (cDv.fst,
  cDv.snd.fst, Rose.node ((cDv.snd.snd.fst.val.fst.fst, cDv.snd.snd.fst.val.fst.snd.fst, ()), cDv.snd.snd.fst.val.snd.fst, ()) cDv.snd.snd.fst.subs, ()), true) = (aDv, cDv, true) ∧
  ((aDv.fst, aDv.snd.fst, Rose.node ((aDv.snd.snd.fst.val.fst.fst, aDv.snd.snd.fst.val.fst.snd.fst, ()), aDv.snd.snd.fst.val.snd.fst, ()) aDv.snd.snd.fst.subs, ()), (cDv.fst,
  cDv.snd.fst, Rose.node ((cDv.snd.snd.fst.val.fst.fst, cDv.snd.snd.fst.val.fst.snd.fst, ()), cDv.snd.snd.fst.val.snd.fst, ()) cDv.snd.snd.fst.subs, ()), true) = (aDv, cDv, true))
  ∧ ((aDv.fst, aDv.snd.fst, Rose.node ((aDv.snd.snd.fst.val.fst.fst, aDv.snd.snd.fst.val.fst.snd.fst, ()), aDv.snd.snd.fst.val.snd.fst, ()) aDv.snd.snd.fst.subs, ()), (cDv.fst,
  cDv.snd.fst, Rose.node ((cDv.snd.snd.fst.val.fst.fst, cDv.snd.snd.fst.val.fst.snd.fst, ()), cDv.snd.snd.fst.val.snd.fst, ()) cDv.snd.snd.fst.subs, ()), true) = (aDv, cDv, true))
  ∧ (((((aDv.fst, aDv.snd.fst, Rose.node ((aDv.snd.snd.fst.val.fst.fst, aDv.snd.snd.fst.val.fst.snd.fst, ()), aDv.snd.snd.fst.val.snd.fst, ()) aDv.snd.snd.fst.subs, ()), (cDv.fst,
  cDv.snd.fst, Rose.node ((cDv.snd.snd.fst.val.fst.fst, cDv.snd.snd.fst.val.fst.snd.fst, ()), cDv.snd.snd.fst.val.snd.fst, ()) cDv.snd.snd.fst.subs, ()), true) = (aDv, cDv, true) ∧
  ((aDv.fst, aDv.snd.fst, Rose.node ((aDv.snd.snd.fst.val.fst.fst, aDv.snd.snd.fst.val.fst.snd.fst, ()), aDv.snd.snd.fst.val.snd.fst, ()) aDv.snd.snd.fst.subs, ()), (cDv.fst,
  cDv.snd.fst, Rose.node ((cDv.snd.snd.fst.val.fst.fst, cDv.snd.snd.fst.val.fst.snd.fst, ()), cDv.snd.snd.fst.val.snd.fst, ()) cDv.snd.snd.fst.subs, ()), true) = (aDv, cDv, true))
  ∧ ((aDv.fst, aDv.snd.fst, Rose.node ((aDv.snd.snd.fst.val.fst.fst, aDv.snd.snd.fst.val.fst.snd.fst, ()), aDv.snd.snd.fst.val.snd.fst, ()) aDv.snd.snd.fst.subs, ()), (cDv.fst,
  cDv.snd.fst, Rose.node ((cDv.snd.snd.fst.val.fst.fst, cDv.snd.snd.fst.val.fst.snd.fst, ()), cDv.snd.snd.fst.val.snd.fst, ()) cDv.snd.snd.fst.subs, ()), true) = (aDv, cDv, true))
  ∧ ((aDv.fst, aDv.snd.fst, Rose.node ((aDv.snd.snd.fst.val.fst.fst, aDv.snd.snd.fst.val.fst.snd.fst, ()), aDv.snd.snd.fst.val.snd.fst, ()) aDv.snd.snd.fst.subs, ()), (cDv.fst,
  cDv.snd.fst, Rose.node ((cDv.snd.snd.fst.val.fst.fst, cDv.snd.snd.fst.val.fst.snd.fst, ()), cDv.snd.snd.fst.val.snd.fst, ()) cDv.snd.snd.fst.subs, ()), true) = (aDv, cDv, true))
  ∧ ((((aDv.fst, aDv.snd.fst, Rose.node ((aDv.snd.snd.fst.val.fst.fst, aDv.snd.snd.fst.val.fst.snd.fst, ()), aDv.snd.snd.fst.val.snd.fst, ()) aDv.snd.snd.fst.subs, ()), (cDv.fst,
  cDv.snd.fst, Rose.node ((cDv.snd.snd.fst.val.fst.fst, cDv.snd.snd.fst.val.fst.snd.fst, ()), cDv.snd.snd.fst.val.snd.fst, ()) cDv.snd.snd.fst.subs, ()), true) = (aDv, cDv, true) ∧
  ((aDv.fst, aDv.snd.fst, Rose.node ((aDv.snd.snd.fst.val.fst.fst, aDv.snd.snd.fst.val.fst.snd.fst, ()), aDv.snd.snd.fst.val.snd.fst, ()) aDv.snd.snd.fst.subs, ()), (cDv.fst,
  cDv.snd.fst, Rose.node ((cDv.snd.snd.fst.val.fst.fst, cDv.snd.snd.fst.val.fst.snd.fst, ()), cDv.snd.snd.fst.val.snd.fst, ()) cDv.snd.snd.fst.subs, ()), true) = (aDv, cDv, true))
  ∧ ((aDv.fst, aDv.snd.fst, Rose.node ((aDv.snd.snd.fst.val.fst.fst, aDv.snd.snd.fst.val.fst.snd.fst, ()), aDv.snd.snd.fst.val.snd.fst, ()) aDv.snd.snd.fst.subs, ()), (cDv.fst,
  cDv.snd.fst, Rose.node ((cDv.snd.snd.fst.val.fst.fst, cDv.snd.snd.fst.val.fst.snd.fst, ()), cDv.snd.snd.fst.val.snd.fst, ()) cDv.snd.snd.fst.subs, ()), true) = (aDv, cDv, true))
  ∧ (((aDv.fst, aDv.snd.fst, Rose.node ((aDv.snd.snd.fst.val.fst.fst, aDv.snd.snd.fst.val.fst.snd.fst, ()), aDv.snd.snd.fst.val.snd.fst, ()) aDv.snd.snd.fst.subs, ()), (cDv.fst,
  cDv.snd.fst, Rose.node ((cDv.snd.snd.fst.val.fst.fst, cDv.snd.snd.fst.val.fst.snd.fst, ()), cDv.snd.snd.fst.val.snd.fst, ()) cDv.snd.snd.fst.subs, ()), true) = (aDv, cDv, true) ∧
  ((aDv.fst, aDv.snd.fst, Rose.node ((aDv.snd.snd.fst.val.fst.fst, aDv.snd.snd.fst.val.fst.snd.fst, ()), aDv.snd.snd.fst.val.snd.fst, ()) aDv.snd.snd.fst.subs, ()), (cDv.fst,
  cDv.snd.fst, Rose.node ((cDv.snd.snd.fst.val.fst.fst, cDv.snd.snd.fst.val.fst.snd.fst, ()), cDv.snd.snd.fst.val.snd.fst, ()) cDv.snd.snd.fst.subs, ()), true) = (aDv, cDv, true))
  ∧ ((aDv.fst, aDv.snd.fst, Rose.node ((aDv.snd.snd.fst.val.fst.fst, aDv.snd.snd.fst.val.fst.snd.fst, ()), aDv.snd.snd.fst.val.snd.fst, ()) aDv.snd.snd.fst.subs, ()), (cDv.fst,
  cDv.snd.fst, Rose.node ((cDv.snd.snd.fst.val.fst.fst, cDv.snd.snd.fst.val.fst.snd.fst, ()), cDv.snd.snd.fst.val.snd.fst, ()) cDv.snd.snd.fst.subs, ()), true) = (aDv, cDv, true))
  ∧ ((((((aDv.fst, aDv.snd.fst, Rose.node ((aDv.snd.snd.fst.val.fst.fst, aDv.snd.snd.fst.val.fst.snd.fst, ()), aDv.snd.snd.fst.val.snd.fst, ()) aDv.snd.snd.fst.subs, ()), (cDv.fst,
  cDv.snd.fst, Rose.node ((cDv.snd.snd.fst.val.fst.fst, cDv.snd.snd.fst.val.fst.snd.fst, ()), cDv.snd.snd.fst.val.snd.fst, ()) cDv.snd.snd.fst.subs, ()), true) = (aDv, cDv, true) ∧
  ((aDv.fst, aDv.snd.fst, Rose.node ((aDv.snd.snd.fst.val.fst.fst, aDv.snd.snd.fst.val.fst.snd.fst, ()), aDv.snd.snd.fst.val.snd.fst, ()) aDv.snd.snd.fst.subs, ()), (cDv.fst,
  cDv.snd.fst, Rose.node ((cDv.snd.snd.fst.val.fst.fst, cDv.snd.snd.fst.val.fst.snd.fst, ()), cDv.snd.snd.fst.val.snd.fst, ()) cDv.snd.snd.fst.subs, ()), true) = (aDv, cDv, true) ∧
  ((aDv.fst, aDv.snd.fst, Rose.node ((aDv.snd.snd.fst.val.fst.fst, aDv.snd.snd.fst.val.fst.snd.fst, ()), aDv.snd.snd.fst.val.snd.fst, ()) aDv.snd.snd.fst.subs, ()), (cDv.fst,
  cDv.snd.fst, Rose.node ((cDv.snd.snd.fst.val.fst.fst, cDv.snd.snd.fst.val.fst.snd.fst, ()), cDv.snd.snd.fst.val.snd.fst, ()) cDv.snd.snd.fst.subs, ()), true) = (aDv, cDv, true))
  ∧ (((aDv.fst, aDv.snd.fst, Rose.node ((aDv.snd.snd.fst.val.fst.fst, aDv.snd.snd.fst.val.fst.snd.fst, ()), aDv.snd.snd.fst.val.snd.fst, ()) aDv.snd.snd.fst.subs, ()), (cDv.fst,
  cDv.snd.fst, Rose.node ((cDv.snd.snd.fst.val.fst.fst, cDv.snd.snd.fst.val.fst.snd.fst, ()), cDv.snd.snd.fst.val.snd.fst, ()) cDv.snd.snd.fst.subs, ()), true) = (aDv, cDv, true) ∧
  ((aDv.fst, aDv.snd.fst, Rose.node ((aDv.snd.snd.fst.val.fst.fst, aDv.snd.snd.fst.val.fst.snd.fst, ()), aDv.snd.snd.fst.val.snd.fst, ()) aDv.snd.snd.fst.subs, ()), (cDv.fst,
  cDv.snd.fst, Rose.node ((cDv.snd.snd.fst.val.fst.fst, cDv.snd.snd.fst.val.fst.snd.fst, ()), cDv.snd.snd.fst.val.snd.fst, ()) cDv.snd.snd.fst.subs, ()), true) = (aDv, cDv, true))
  ∧ ((aDv.fst, aDv.snd.fst, Rose.node ((aDv.snd.snd.fst.val.fst.fst, aDv.snd.snd.fst.val.fst.snd.fst, ()), aDv.snd.snd.fst.val.snd.fst, ()) aDv.snd.snd.fst.subs, ()), (cDv.fst,
  cDv.snd.fst, Rose.node ((cDv.snd.snd.fst.val.fst.fst, cDv.snd.snd.fst.val.fst.snd.fst, ()), cDv.snd.snd.fst.val.snd.fst, ()) cDv.snd.snd.fst.subs, ()), true) = (aDv, cDv, true))
  ∧ ((((aDv.fst, aDv.snd.fst, Rose.node ((aDv.snd.snd.fst.val.fst.fst, aDv.snd.snd.fst.val.fst.snd.fst, ()), aDv.snd.snd.fst.val.snd.fst, ()) aDv.snd.snd.fst.subs, ()), (cDv.fst,
  cDv.snd.fst, Rose.node ((cDv.snd.snd.fst.val.fst.fst, cDv.snd.snd.fst.val.fst.snd.fst, ()), cDv.snd.snd.fst.val.snd.fst, ()) cDv.snd.snd.fst.subs, ()), true) = (aDv, cDv, true) ∧
  ((aDv.fst, aDv.snd.fst, Rose.node ((aDv.snd.snd.fst.val.fst.fst, aDv.snd.snd.fst.val.fst.snd.fst, ()), aDv.snd.snd.fst.val.snd.fst, ()) aDv.snd.snd.fst.subs, ()), (cDv.fst,
  cDv.snd.fst, Rose.node ((cDv.snd.snd.fst.val.fst.fst, cDv.snd.snd.fst.val.fst.snd.fst, ()), cDv.snd.snd.fst.val.snd.fst, ()) cDv.snd.snd.fst.subs, ()), true) = (aDv, cDv, true))
  ∧ ((aDv.fst, aDv.snd.fst, Rose.node ((aDv.snd.snd.fst.val.fst.fst, aDv.snd.snd.fst.val.fst.snd.fst, ()), aDv.snd.snd.fst.val.snd.fst, ()) aDv.snd.snd.fst.subs, ()), (cDv.fst,
  cDv.snd.fst, Rose.node ((cDv.snd.snd.fst.val.fst.fst, cDv.snd.snd.fst.val.fst.snd.fst, ()), cDv.snd.snd.fst.val.snd.fst, ()) cDv.snd.snd.fst.subs, ()), true) = (aDv, cDv, true))
  ∧ ((aDv.fst, aDv.snd.fst, Rose.node ((aDv.snd.snd.fst.val.fst.fst, aDv.snd.snd.fst.val.fst.snd.fst, ()), aDv.snd.snd.fst.val.snd.fst, ()) aDv.snd.snd.fst.subs, ()), (cDv.fst,
  cDv.snd.fst, Rose.node ((cDv.snd.snd.fst.val.fst.fst, cDv.snd.snd.fst.val.fst.snd.fst, ()), cDv.snd.snd.fst.val.snd.fst, ()) cDv.snd.snd.fst.subs, ()), true) = (aDv, cDv, true))
  ∧ (((((aDv.fst, aDv.snd.fst, Rose.node ((aDv.snd.snd.fst.val.fst.fst, aDv.snd.snd.fst.val.fst.snd.fst, ()), aDv.snd.snd.fst.val.snd.fst, ()) aDv.snd.snd.fst.subs, ()), (cDv.fst,
  cDv.snd.fst, Rose.node ((cDv.snd.snd.fst.val.fst.fst, cDv.snd.snd.fst.val.fst.snd.fst, ()), cDv.snd.snd.fst.val.snd.fst, ()) cDv.snd.snd.fst.subs, ()), true) = (aDv, cDv, true) ∧
  ((aDv.fst, aDv.snd.fst, Rose.node ((aDv.snd.snd.fst.val.fst.fst, aDv.snd.snd.fst.val.fst.snd.fst, ()), aDv.snd.snd.fst.val.snd.fst, ()) aDv.snd.snd.fst.subs, ()), (cDv.fst,
  cDv.snd.fst, Rose.node ((cDv.snd.snd.fst.val.fst.fst, cDv.snd.snd.fst.val.fst.snd.fst, ()), cDv.snd.snd.fst.val.snd.fst, ()) cDv.snd.snd.fst.subs, ()), true) = (aDv, cDv, true) ∧
  ((aDv.fst, aDv.snd.fst, Rose.node ((aDv.snd.snd.fst.val.fst.fst, aDv.snd.snd.fst.val.fst.snd.fst, ()), aDv.snd.snd.fst.val.snd.fst, ()) aDv.snd.snd.fst.subs, ()), (cDv.fst,
  cDv.snd.fst, Rose.node ((cDv.snd.snd.fst.val.fst.fst, cDv.snd.snd.fst.val.fst.snd.fst, ()), cDv.snd.snd.fst.val.snd.fst, ()) cDv.snd.snd.fst.subs, ()), true) = (aDv, cDv, true))
  ∧ (((aDv.fst, aDv.snd.fst, Rose.node ((aDv.snd.snd.fst.val.fst.fst, aDv.snd.snd.fst.val.fst.snd.fst, ()), aDv.snd.snd.fst.val.snd.fst, ()) aDv.snd.snd.fst.subs, ()), (cDv.fst,
  cDv.snd.fst, Rose.node ((cDv.snd.snd.fst.val.fst.fst, cDv.snd.snd.fst.val.fst.snd.fst, ()), cDv.snd.snd.fst.val.snd.fst, ()) cDv.snd.snd.fst.subs, ()), true) = (aDv, cDv, true) ∧
  ((aDv.fst, aDv.snd.fst, Rose.node ((aDv.snd.snd.fst.val.fst.fst, aDv.snd.snd.fst.val.fst.snd.fst, ()), aDv.snd.snd.fst.val.snd.fst, ()) aDv.snd.snd.fst.subs, ()), (cDv.fst,
  cDv.snd.fst, Rose.node ((cDv.snd.snd.fst.val.fst.fst, cDv.snd.snd.fst.val.fst.snd.fst, ()), cDv.snd.snd.fst.val.snd.fst, ()) cDv.snd.snd.fst.subs, ()), true) = (aDv, cDv, true))
  ∧ ((aDv.fst, aDv.snd.fst, Rose.node ((aDv.snd.snd.fst.val.fst.fst, aDv.snd.snd.fst.val.fst.snd.fst, ()), aDv.snd.snd.fst.val.snd.fst, ()) aDv.snd.snd.fst.subs, ()), (cDv.fst,
  cDv.snd.fst, Rose.node ((cDv.snd.snd.fst.val.fst.fst, cDv.snd.snd.fst.val.fst.snd.fst, ()), cDv.snd.snd.fst.val.snd.fst, ()) cDv.snd.snd.fst.subs, ()), true) = (aDv, cDv, true))
  ∧ ((((aDv.fst, aDv.snd.fst, Rose.node ((aDv.snd.snd.fst.val.fst.fst, aDv.snd.snd.fst.val.fst.snd.fst, ()), aDv.snd.snd.fst.val.snd.fst, ()) aDv.snd.snd.fst.subs, ()), (cDv.fst,
  cDv.snd.fst, Rose.node ((cDv.snd.snd.fst.val.fst.fst, cDv.snd.snd.fst.val.fst.snd.fst, ()), cDv.snd.snd.fst.val.snd.fst, ()) cDv.snd.snd.fst.subs, ()), true) = (aDv, cDv, true) ∧
  ((aDv.fst, aDv.snd.fst, Rose.node ((aDv.snd.snd.fst.val.fst.fst, aDv.snd.snd.fst.val.fst.snd.fst, ()), aDv.snd.snd.fst.val.snd.fst, ()) aDv.snd.snd.fst.subs, ()), (cDv.fst,
  cDv.snd.fst, Rose.node ((cDv.snd.snd.fst.val.fst.fst, cDv.snd.snd.fst.val.fst.snd.fst, ()), cDv.snd.snd.fst.val.snd.fst, ()) cDv.snd.snd.fst.subs, ()), true) = (aDv, cDv, true))
  ∧ ((aDv.fst, aDv.snd.fst, Rose.node ((aDv.snd.snd.fst.val.fst.fst, aDv.snd.snd.fst.val.fst.snd.fst, ()), aDv.snd.snd.fst.val.snd.fst, ()) aDv.snd.snd.fst.subs, ()), (cDv.fst,
  cDv.snd.fst, Rose.node ((cDv.snd.snd.fst.val.fst.fst, cDv.snd.snd.fst.val.fst.snd.fst, ()), cDv.snd.snd.fst.val.snd.fst, ()) cDv.snd.snd.fst.subs, ()), true) = (aDv, cDv, true))
  ∧ ((aDv.fst, aDv.snd.fst, Rose.node ((aDv.snd.snd.fst.val.fst.fst, aDv.snd.snd.fst.val.fst.snd.fst, ()), aDv.snd.snd.fst.val.snd.fst, ()) aDv.snd.snd.fst.subs, ()), (cDv.fst,
  cDv.snd.fst, Rose.node ((cDv.snd.snd.fst.val.fst.fst, cDv.snd.snd.fst.val.fst.snd.fst, ()), cDv.snd.snd.fst.val.snd.fst, ()) cDv.snd.snd.fst.subs, ()), true) = (aDv, cDv, true))
  ∧ ((((aDv.fst, aDv.snd.fst, Rose.node ((aDv.snd.snd.fst.val.fst.fst, aDv.snd.snd.fst.val.fst.snd.fst, ()), aDv.snd.snd.fst.val.snd.fst, ()) aDv.snd.snd.fst.subs, ()), (cDv.fst,
  cDv.snd.fst, Rose.node ((cDv.snd.snd.fst.val.fst.fst, cDv.snd.snd.fst.val.fst.snd.fst, ()), cDv.snd.snd.fst.val.snd.fst, ()) cDv.snd.snd.fst.subs, ()), true) = (aDv, cDv, true) ∧
  ((aDv.fst, aDv.snd.fst, Rose.node ((aDv.snd.snd.fst.val.fst.fst, aDv.snd.snd.fst.val.fst.snd.fst, ()), aDv.snd.snd.fst.val.snd.fst, ()) aDv.snd.snd.fst.subs, ()), (cDv.fst,
  cDv.snd.fst, Rose.node ((cDv.snd.snd.fst.val.fst.fst, cDv.snd.snd.fst.val.fst.snd.fst, ()), cDv.snd.snd.fst.val.snd.fst, ()) cDv.snd.snd.fst.subs, ()), true) = (aDv, cDv, true) ∧
  ((aDv.fst, aDv.snd.fst, Rose.node ((aDv.snd.snd.fst.val.fst.fst, aDv.snd.snd.fst.val.fst.snd.fst, ()), aDv.snd.snd.fst.val.snd.fst, ()) aDv.snd.snd.fst.subs, ()), (cDv.fst,
  cDv.snd.fst, Rose.node ((cDv.snd.snd.fst.val.fst.fst, cDv.snd.snd.fst.val.fst.snd.fst, ()), cDv.snd.snd.fst.val.snd.fst, ()) cDv.snd.snd.fst.subs, ()), true) = (aDv, cDv, true))
  ∧ (((aDv.fst, aDv.snd.fst, Rose.node ((aDv.snd.snd.fst.val.fst.fst, aDv.snd.snd.fst.val.fst.snd.fst, ()), aDv.snd.snd.fst.val.snd.fst, ()) aDv.snd.snd.fst.subs, ()), (cDv.fst,
  cDv.snd.fst, Rose.node ((cDv.snd.snd.fst.val.fst.fst, cDv.snd.snd.fst.val.fst.snd.fst, ()), cDv.snd.snd.fst.val.snd.fst, ()) cDv.snd.snd.fst.subs, ()), true) = (aDv, cDv, true) ∧
  ((aDv.fst, aDv.snd.fst, Rose.node ((aDv.snd.snd.fst.val.fst.fst, aDv.snd.snd.fst.val.fst.snd.fst, ()), aDv.snd.snd.fst.val.snd.fst, ()) aDv.snd.snd.fst.subs, ()), (cDv.fst,
  cDv.snd.fst, Rose.node ((cDv.snd.snd.fst.val.fst.fst, cDv.snd.snd.fst.val.fst.snd.fst, ()), cDv.snd.snd.fst.val.snd.fst, ()) cDv.snd.snd.fst.subs, ()), true) = (aDv, cDv, true))
  ∧ ((aDv.fst, aDv.snd.fst, Rose.node ((aDv.snd.snd.fst.val.fst.fst, aDv.snd.snd.fst.val.fst.snd.fst, ()), aDv.snd.snd.fst.val.snd.fst, ()) aDv.snd.snd.fst.subs, ()), (cDv.fst,
  cDv.snd.fst, Rose.node ((cDv.snd.snd.fst.val.fst.fst, cDv.snd.snd.fst.val.fst.snd.fst, ()), cDv.snd.snd.fst.val.snd.fst, ()) cDv.snd.snd.fst.subs, ()), true) = (aDv, cDv, true))
  ∧ (((aDv.fst, aDv.snd.fst, Rose.node ((aDv.snd.snd.fst.val.fst.fst, aDv.snd.snd.fst.val.fst.snd.fst, ()), aDv.snd.snd.fst.val.snd.fst, ()) aDv.snd.snd.fst.subs, ()), (cDv.fst,
  cDv.snd.fst, Rose.node ((cDv.snd.snd.fst.val.fst.fst, cDv.snd.snd.fst.val.fst.snd.fst, ()), cDv.snd.snd.fst.val.snd.fst, ()) cDv.snd.snd.fst.subs, ()), true) = (aDv, cDv, true) ∧
  ((aDv.fst, aDv.snd.fst, Rose.node ((aDv.snd.snd.fst.val.fst.fst, aDv.snd.snd.fst.val.fst.snd.fst, ()), aDv.snd.snd.fst.val.snd.fst, ()) aDv.snd.snd.fst.subs, ()), (cDv.fst,
  cDv.snd.fst, Rose.node ((cDv.snd.snd.fst.val.fst.fst, cDv.snd.snd.fst.val.fst.snd.fst, ()), cDv.snd.snd.fst.val.snd.fst, ()) cDv.snd.snd.fst.subs, ()), true) = (aDv, cDv, true) ∧
  ((aDv.fst, aDv.snd.fst, Rose.node ((aDv.snd.snd.fst.val.fst.fst, aDv.snd.snd.fst.val.fst.snd.fst, ()), aDv.snd.snd.fst.val.snd.fst, ()) aDv.snd.snd.fst.subs, ()), (cDv.fst,
  cDv.snd.fst, Rose.node ((cDv.snd.snd.fst.val.fst.fst, cDv.snd.snd.fst.val.fst.snd.fst, ()), cDv.snd.snd.fst.val.snd.fst, ()) cDv.snd.snd.fst.subs, ()), true) = (aDv, cDv, true))
  ∧ ((aDv.fst, aDv.snd.fst, Rose.node ((aDv.snd.snd.fst.val.fst.fst, aDv.snd.snd.fst.val.fst.snd.fst, ()), aDv.snd.snd.fst.val.snd.fst, ()) aDv.snd.snd.fst.subs, ()), (cDv.fst,
  cDv.snd.fst, Rose.node ((cDv.snd.snd.fst.val.fst.fst, cDv.snd.snd.fst.val.fst.snd.fst, ()), cDv.snd.snd.fst.val.snd.fst, ()) cDv.snd.snd.fst.subs, ()), true) = (aDv, cDv, true))
  ∧ ((((((aDv.fst, aDv.snd.fst, Rose.node ((aDv.snd.snd.fst.val.fst.fst, aDv.snd.snd.fst.val.fst.snd.fst, ()), aDv.snd.snd.fst.val.snd.fst, ()) aDv.snd.snd.fst.subs, ()), (cDv.fst,
  cDv.snd.fst, Rose.node ((cDv.snd.snd.fst.val.fst.fst, cDv.snd.snd.fst.val.fst.snd.fst, ()), cDv.snd.snd.fst.val.snd.fst, ()) cDv.snd.snd.fst.subs, ()), true) = (aDv, cDv, true) ∧
  ((aDv.fst, aDv.snd.fst, Rose.node ((aDv.snd.snd.fst.val.fst.fst, aDv.snd.snd.fst.val.fst.snd.fst, ()), aDv.snd.snd.fst.val.snd.fst, ()) aDv.snd.snd.fst.subs, ()), (cDv.fst,
  cDv.snd.fst, Rose.node ((cDv.snd.snd.fst.val.fst.fst, cDv.snd.snd.fst.val.fst.snd.fst, ()), cDv.snd.snd.fst.val.snd.fst, ()) cDv.snd.snd.fst.subs, ()), true) = (aDv, cDv, true) ∧
  ((aDv.fst, aDv.snd.fst, Rose.node ((aDv.snd.snd.fst.val.fst.fst, aDv.snd.snd.fst.val.fst.snd.fst, ()), aDv.snd.snd.fst.val.snd.fst, ()) aDv.snd.snd.fst.subs, ()), (cDv.fst,
  cDv.snd.fst, Rose.node ((cDv.snd.snd.fst.val.fst.fst, cDv.snd.snd.fst.val.fst.snd.fst, ()), cDv.snd.snd.fst.val.snd.fst, ()) cDv.snd.snd.fst.subs, ()), true) = (aDv, cDv, true))
  ∧ (((aDv.fst, aDv.snd.fst, Rose.node ((aDv.snd.snd.fst.val.fst.fst, aDv.snd.snd.fst.val.fst.snd.fst, ()), aDv.snd.snd.fst.val.snd.fst, ()) aDv.snd.snd.fst.subs, ()), (cDv.fst,
  cDv.snd.fst, Rose.node ((cDv.snd.snd.fst.val.fst.fst, cDv.snd.snd.fst.val.fst.snd.fst, ()), cDv.snd.snd.fst.val.snd.fst, ()) cDv.snd.snd.fst.subs, ()), true) = (aDv, cDv, true) ∧
  ((aDv.fst, aDv.snd.fst, Rose.node ((aDv.snd.snd.fst.val.fst.fst, aDv.snd.snd.fst.val.fst.snd.fst, ()), aDv.snd.snd.fst.val.snd.fst, ()) aDv.snd.snd.fst.subs, ()), (cDv.fst,
  cDv.snd.fst, Rose.node ((cDv.snd.snd.fst.val.fst.fst, cDv.snd.snd.fst.val.fst.snd.fst, ()), cDv.snd.snd.fst.val.snd.fst, ()) cDv.snd.snd.fst.subs, ()), true) = (aDv, cDv, true))
  ∧ ((aDv.fst, aDv.snd.fst, Rose.node ((aDv.snd.snd.fst.val.fst.fst, aDv.snd.snd.fst.val.fst.snd.fst, ()), aDv.snd.snd.fst.val.snd.fst, ()) aDv.snd.snd.fst.subs, ()), (cDv.fst,
  cDv.snd.fst, Rose.node ((cDv.snd.snd.fst.val.fst.fst, cDv.snd.snd.fst.val.fst.snd.fst, ()), cDv.snd.snd.fst.val.snd.fst, ()) cDv.snd.snd.fst.subs, ()), true) = (aDv, cDv, true))
  ∧ ((((aDv.fst, aDv.snd.fst, Rose.node ((aDv.snd.snd.fst.val.fst.fst, aDv.snd.snd.fst.val.fst.snd.fst, ()), aDv.snd.snd.fst.val.snd.fst, ()) aDv.snd.snd.fst.subs, ()), (cDv.fst,
  cDv.snd.fst, Rose.node ((cDv.snd.snd.fst.val.fst.fst, cDv.snd.snd.fst.val.fst.snd.fst, ()), cDv.snd.snd.fst.val.snd.fst, ()) cDv.snd.snd.fst.subs, ()), true) = (aDv, cDv, true) ∧
  ((aDv.fst, aDv.snd.fst, Rose.node ((aDv.snd.snd.fst.val.fst.fst, aDv.snd.snd.fst.val.fst.snd.fst, ()), aDv.snd.snd.fst.val.snd.fst, ()) aDv.snd.snd.fst.subs, ()), (cDv.fst,
  cDv.snd.fst, Rose.node ((cDv.snd.snd.fst.val.fst.fst, cDv.snd.snd.fst.val.fst.snd.fst, ()), cDv.snd.snd.fst.val.snd.fst, ()) cDv.snd.snd.fst.subs, ()), true) = (aDv, cDv, true))
  ∧ ((aDv.fst, aDv.snd.fst, Rose.node ((aDv.snd.snd.fst.val.fst.fst, aDv.snd.snd.fst.val.fst.snd.fst, ()), aDv.snd.snd.fst.val.snd.fst, ()) aDv.snd.snd.fst.subs, ()), (cDv.fst,
  cDv.snd.fst, Rose.node ((cDv.snd.snd.fst.val.fst.fst, cDv.snd.snd.fst.val.fst.snd.fst, ()), cDv.snd.snd.fst.val.snd.fst, ()) cDv.snd.snd.fst.subs, ()), true) = (aDv, cDv, true))
  ∧ ((aDv.fst, aDv.snd.fst, Rose.node ((aDv.snd.snd.fst.val.fst.fst, aDv.snd.snd.fst.val.fst.snd.fst, ()), aDv.snd.snd.fst.val.snd.fst, ()) aDv.snd.snd.fst.subs, ()), (cDv.fst,
  cDv.snd.fst, Rose.node ((cDv.snd.snd.fst.val.fst.fst, cDv.snd.snd.fst.val.fst.snd.fst, ()), cDv.snd.snd.fst.val.snd.fst, ()) cDv.snd.snd.fst.subs, ()), true) = (aDv, cDv, true))
  ∧ (((((aDv.fst, aDv.snd.fst, Rose.node ((aDv.snd.snd.fst.val.fst.fst, aDv.snd.snd.fst.val.fst.snd.fst, ()), aDv.snd.snd.fst.val.snd.fst, ()) aDv.snd.snd.fst.subs, ()), (cDv.fst,
  cDv.snd.fst, Rose.node ((cDv.snd.snd.fst.val.fst.fst, cDv.snd.snd.fst.val.fst.snd.fst, ()), cDv.snd.snd.fst.val.snd.fst, ()) cDv.snd.snd.fst.subs, ()), true) = (aDv, cDv, true) ∧
  ((aDv.fst, aDv.snd.fst, Rose.node ((aDv.snd.snd.fst.val.fst.fst, aDv.snd.snd.fst.val.fst.snd.fst, ()), aDv.snd.snd.fst.val.snd.fst, ()) aDv.snd.snd.fst.subs, ()), (cDv.fst,
  cDv.snd.fst, Rose.node ((cDv.snd.snd.fst.val.fst.fst, cDv.snd.snd.fst.val.fst.snd.fst, ()), cDv.snd.snd.fst.val.snd.fst, ()) cDv.snd.snd.fst.subs, ()), true) = (aDv, cDv, true) ∧
  ((aDv.fst, aDv.snd.fst, Rose.node ((aDv.snd.snd.fst.val.fst.fst, aDv.snd.snd.fst.val.fst.snd.fst, ()), aDv.snd.snd.fst.val.snd.fst, ()) aDv.snd.snd.fst.subs, ()), (cDv.fst,
  cDv.snd.fst, Rose.node ((cDv.snd.snd.fst.val.fst.fst, cDv.snd.snd.fst.val.fst.snd.fst, ()), cDv.snd.snd.fst.val.snd.fst, ()) cDv.snd.snd.fst.subs, ()), true) = (aDv, cDv, true))
  ∧ (((aDv.fst, aDv.snd.fst, Rose.node ((aDv.snd.snd.fst.val.fst.fst, aDv.snd.snd.fst.val.fst.snd.fst, ()), aDv.snd.snd.fst.val.snd.fst, ()) aDv.snd.snd.fst.subs, ()), (cDv.fst,
  cDv.snd.fst, Rose.node ((cDv.snd.snd.fst.val.fst.fst, cDv.snd.snd.fst.val.fst.snd.fst, ()), cDv.snd.snd.fst.val.snd.fst, ()) cDv.snd.snd.fst.subs, ()), true) = (aDv, cDv, true) ∧
  ((aDv.fst, aDv.snd.fst, Rose.node ((aDv.snd.snd.fst.val.fst.fst, aDv.snd.snd.fst.val.fst.snd.fst, ()), aDv.snd.snd.fst.val.snd.fst, ()) aDv.snd.snd.fst.subs, ()), (cDv.fst,
  cDv.snd.fst, Rose.node ((cDv.snd.snd.fst.val.fst.fst, cDv.snd.snd.fst.val.fst.snd.fst, ()), cDv.snd.snd.fst.val.snd.fst, ()) cDv.snd.snd.fst.subs, ()), true) = (aDv, cDv, true))
  ∧ ((aDv.fst, aDv.snd.fst, Rose.node ((aDv.snd.snd.fst.val.fst.fst, aDv.snd.snd.fst.val.fst.snd.fst, ()), aDv.snd.snd.fst.val.snd.fst, ()) aDv.snd.snd.fst.subs, ()), (cDv.fst,
  cDv.snd.fst, Rose.node ((cDv.snd.snd.fst.val.fst.fst, cDv.snd.snd.fst.val.fst.snd.fst, ()), cDv.snd.snd.fst.val.snd.fst, ()) cDv.snd.snd.fst.subs, ()), true) = (aDv, cDv, true))
  ∧ ((((aDv.fst, aDv.snd.fst, Rose.node ((aDv.snd.snd.fst.val.fst.fst, aDv.snd.snd.fst.val.fst.snd.fst, ()), aDv.snd.snd.fst.val.snd.fst, ()) aDv.snd.snd.fst.subs, ()), (cDv.fst,
  cDv.snd.fst, Rose.node ((cDv.snd.snd.fst.val.fst.fst, cDv.snd.snd.fst.val.fst.snd.fst, ()), cDv.snd.snd.fst.val.snd.fst, ()) cDv.snd.snd.fst.subs, ()), true) = (aDv, cDv, true) ∧
  ((aDv.fst, aDv.snd.fst, Rose.node ((aDv.snd.snd.fst.val.fst.fst, aDv.snd.snd.fst.val.fst.snd.fst, ()), aDv.snd.snd.fst.val.snd.fst, ()) aDv.snd.snd.fst.subs, ()), (cDv.fst,
  cDv.snd.fst, Rose.node ((cDv.snd.snd.fst.val.fst.fst, cDv.snd.snd.fst.val.fst.snd.fst, ()), cDv.snd.snd.fst.val.snd.fst, ()) cDv.snd.snd.fst.subs, ()), true) = (aDv, cDv, true) ∧
  ((aDv.fst, aDv.snd.fst, Rose.node ((aDv.snd.snd.fst.val.fst.fst, aDv.snd.snd.fst.val.fst.snd.fst, ()), aDv.snd.snd.fst.val.snd.fst, ()) aDv.snd.snd.fst.subs, ()), (cDv.fst,
  cDv.snd.fst, Rose.node ((cDv.snd.snd.fst.val.fst.fst, cDv.snd.snd.fst.val.fst.snd.fst, ()), cDv.snd.snd.fst.val.snd.fst, ()) cDv.snd.snd.fst.subs, ()), true) = (aDv, cDv, true))
  ∧ (((aDv.fst, aDv.snd.fst, Rose.node ((aDv.snd.snd.fst.val.fst.fst, aDv.snd.snd.fst.val.fst.snd.fst, ()), aDv.snd.snd.fst.val.snd.fst, ()) aDv.snd.snd.fst.subs, ()), (cDv.fst,
  cDv.snd.fst, Rose.node ((cDv.snd.snd.fst.val.fst.fst, cDv.snd.snd.fst.val.fst.snd.fst, ()), cDv.snd.snd.fst.val.snd.fst, ()) cDv.snd.snd.fst.subs, ()), true) = (aDv, cDv, true) ∧
  ((aDv.fst, aDv.snd.fst, Rose.node ((aDv.snd.snd.fst.val.fst.fst, aDv.snd.snd.fst.val.fst.snd.fst, ()), aDv.snd.snd.fst.val.snd.fst, ()) aDv.snd.snd.fst.subs, ()), (cDv.fst,
  cDv.snd.fst, Rose.node ((cDv.snd.snd.fst.val.fst.fst, cDv.snd.snd.fst.val.fst.snd.fst, ()), cDv.snd.snd.fst.val.snd.fst, ()) cDv.snd.snd.fst.subs, ()), true) = (aDv, cDv, true))
  ∧ (((aDv.fst, aDv.snd.fst, Rose.node ((aDv.snd.snd.fst.val.fst.fst, aDv.snd.snd.fst.val.fst.snd.fst, ()), aDv.snd.snd.fst.val.snd.fst, ()) aDv.snd.snd.fst.subs, ()), (cDv.fst,
  cDv.snd.fst, Rose.node ((cDv.snd.snd.fst.val.fst.fst, cDv.snd.snd.fst.val.fst.snd.fst, ()), cDv.snd.snd.fst.val.snd.fst, ()) cDv.snd.snd.fst.subs, ()), true) = (aDv, cDv, true) ∧
  ((aDv.fst, aDv.snd.fst, Rose.node ((aDv.snd.snd.fst.val.fst.fst, aDv.snd.snd.fst.val.fst.snd.fst, ()), aDv.snd.snd.fst.val.snd.fst, ()) aDv.snd.snd.fst.subs, ()), (cDv.fst,
  cDv.snd.fst, Rose.node ((cDv.snd.snd.fst.val.fst.fst, cDv.snd.snd.fst.val.fst.snd.fst, ()), cDv.snd.snd.fst.val.snd.fst, ()) cDv.snd.snd.fst.subs, ()), true) = (aDv, cDv, true))
  ∧ ((aDv.fst, aDv.snd.fst, Rose.node ((aDv.snd.snd.fst.val.fst.fst, aDv.snd.snd.fst.val.fst.snd.fst, ()), aDv.snd.snd.fst.val.snd.fst, ()) aDv.snd.snd.fst.subs, ()), (cDv.fst,
  cDv.snd.fst, Rose.node ((cDv.snd.snd.fst.val.fst.fst, cDv.snd.snd.fst.val.fst.snd.fst, ()), cDv.snd.snd.fst.val.snd.fst, ()) cDv.snd.snd.fst.subs, ()), true) = (aDv, cDv, true))
  ∧ ((((aDv.fst, aDv.snd.fst, Rose.node ((aDv.snd.snd.fst.val.fst.fst, aDv.snd.snd.fst.val.fst.snd.fst, ()), aDv.snd.snd.fst.val.snd.fst, ()) aDv.snd.snd.fst.subs, ()), (cDv.fst,
  cDv.snd.fst, Rose.node ((cDv.snd.snd.fst.val.fst.fst, cDv.snd.snd.fst.val.fst.snd.fst, ()), cDv.snd.snd.fst.val.snd.fst, ()) cDv.snd.snd.fst.subs, ()), true) = (aDv, cDv, true) ∧
  ((aDv.fst, aDv.snd.fst, Rose.node ((aDv.snd.snd.fst.val.fst.fst, aDv.snd.snd.fst.val.fst.snd.fst, ()), aDv.snd.snd.fst.val.snd.fst, ()) aDv.snd.snd.fst.subs, ()), (cDv.fst,
  cDv.snd.fst, Rose.node ((cDv.snd.snd.fst.val.fst.fst, cDv.snd.snd.fst.val.fst.snd.fst, ()), cDv.snd.snd.fst.val.snd.fst, ()) cDv.snd.snd.fst.subs, ()), true) = (aDv, cDv, true))
  ∧ ((aDv.fst, aDv.snd.fst, Rose.node ((aDv.snd.snd.fst.val.fst.fst, aDv.snd.snd.fst.val.fst.snd.fst, ()), aDv.snd.snd.fst.val.snd.fst, ()) aDv.snd.snd.fst.subs, ()), (cDv.fst,
  cDv.snd.fst, Rose.node ((cDv.snd.snd.fst.val.fst.fst, cDv.snd.snd.fst.val.fst.snd.fst, ()), cDv.snd.snd.fst.val.snd.fst, ()) cDv.snd.snd.fst.subs, ()), true) = (aDv, cDv, true))
  ∧ (((aDv.fst, aDv.snd.fst, Rose.node ((aDv.snd.snd.fst.val.fst.fst, aDv.snd.snd.fst.val.fst.snd.fst, ()), aDv.snd.snd.fst.val.snd.fst, ()) aDv.snd.snd.fst.subs, ()), (cDv.fst,
  cDv.snd.fst, Rose.node ((cDv.snd.snd.fst.val.fst.fst, cDv.snd.snd.fst.val.fst.snd.fst, ()), cDv.snd.snd.fst.val.snd.fst, ()) cDv.snd.snd.fst.subs, ()), true) = (aDv, cDv, true) ∧
  ((aDv.fst, aDv.snd.fst, Rose.node ((aDv.snd.snd.fst.val.fst.fst, aDv.snd.snd.fst.val.fst.snd.fst, ()), aDv.snd.snd.fst.val.snd.fst, ()) aDv.snd.snd.fst.subs, ()), (cDv.fst,
  cDv.snd.fst, Rose.node ((cDv.snd.snd.fst.val.fst.fst, cDv.snd.snd.fst.val.fst.snd.fst, ()), cDv.snd.snd.fst.val.snd.fst, ()) cDv.snd.snd.fst.subs, ()), true) = (aDv, cDv, true))
  ∧ ((aDv.fst, aDv.snd.fst, Rose.node ((aDv.snd.snd.fst.val.fst.fst, aDv.snd.snd.fst.val.fst.snd.fst, ()), aDv.snd.snd.fst.val.snd.fst, ()) aDv.snd.snd.fst.subs, ()), (cDv.fst,
  cDv.snd.fst, Rose.node ((cDv.snd.snd.fst.val.fst.fst, cDv.snd.snd.fst.val.fst.snd.fst, ()), cDv.snd.snd.fst.val.snd.fst, ()) cDv.snd.snd.fst.subs, ()), true) = (aDv, cDv, true))
  ∧ (((((aDv.fst, aDv.snd.fst, Rose.node ((aDv.snd.snd.fst.val.fst.fst, aDv.snd.snd.fst.val.fst.snd.fst, ()), aDv.snd.snd.fst.val.snd.fst, ()) aDv.snd.snd.fst.subs, ()), (cDv.fst,
  cDv.snd.fst, Rose.node ((cDv.snd.snd.fst.val.fst.fst, cDv.snd.snd.fst.val.fst.snd.fst, ()), cDv.snd.snd.fst.val.snd.fst, ()) cDv.snd.snd.fst.subs, ()), true) = (aDv, cDv, true) ∧
  ((aDv.fst, aDv.snd.fst, Rose.node ((aDv.snd.snd.fst.val.fst.fst, aDv.snd.snd.fst.val.fst.snd.fst, ()), aDv.snd.snd.fst.val.snd.fst, ()) aDv.snd.snd.fst.subs, ()), (cDv.fst,
  cDv.snd.fst, Rose.node ((cDv.snd.snd.fst.val.fst.fst, cDv.snd.snd.fst.val.fst.snd.fst, ()), cDv.snd.snd.fst.val.snd.fst, ()) cDv.snd.snd.fst.subs, ()), true) = (aDv, cDv, true))
  ∧ ((aDv.fst, aDv.snd.fst, Rose.node ((aDv.snd.snd.fst.val.fst.fst, aDv.snd.snd.fst.val.fst.snd.fst, ()), aDv.snd.snd.fst.val.snd.fst, ()) aDv.snd.snd.fst.subs, ()), (cDv.fst,
  cDv.snd.fst, Rose.node ((cDv.snd.snd.fst.val.fst.fst, cDv.snd.snd.fst.val.fst.snd.fst, ()), cDv.snd.snd.fst.val.snd.fst, ()) cDv.snd.snd.fst.subs, ()), true) = (aDv, cDv, true))
  ∧ ((aDv.fst, aDv.snd.fst, Rose.node ((aDv.snd.snd.fst.val.fst.fst, aDv.snd.snd.fst.val.fst.snd.fst, ()), aDv.snd.snd.fst.val.snd.fst, ()) aDv.snd.snd.fst.subs, ()), (cDv.fst,
  cDv.snd.fst, Rose.node ((cDv.snd.snd.fst.val.fst.fst, cDv.snd.snd.fst.val.fst.snd.fst, ()), cDv.snd.snd.fst.val.snd.fst, ()) cDv.snd.snd.fst.subs, ()), true) = (aDv, cDv, true))
  ∧ ((((aDv.fst, aDv.snd.fst, Rose.node ((aDv.snd.snd.fst.val.fst.fst, aDv.snd.snd.fst.val.fst.snd.fst, ()), aDv.snd.snd.fst.val.snd.fst, ()) aDv.snd.snd.fst.subs, ()), (cDv.fst,
  cDv.snd.fst, Rose.node ((cDv.snd.snd.fst.val.fst.fst, cDv.snd.snd.fst.val.fst.snd.fst, ()), cDv.snd.snd.fst.val.snd.fst, ()) cDv.snd.snd.fst.subs, ()), true) = (aDv, cDv, true) ∧
  ((aDv.fst, aDv.snd.fst, Rose.node ((aDv.snd.snd.fst.val.fst.fst, aDv.snd.snd.fst.val.fst.snd.fst, ()), aDv.snd.snd.fst.val.snd.fst, ()) aDv.snd.snd.fst.subs, ()), (cDv.fst,
  cDv.snd.fst, Rose.node ((cDv.snd.snd.fst.val.fst.fst, cDv.snd.snd.fst.val.fst.snd.fst, ()), cDv.snd.snd.fst.val.snd.fst, ()) cDv.snd.snd.fst.subs, ()), true) = (aDv, cDv, true))
  ∧ ((aDv.fst, aDv.snd.fst, Rose.node ((aDv.snd.snd.fst.val.fst.fst, aDv.snd.snd.fst.val.fst.snd.fst, ()), aDv.snd.snd.fst.val.snd.fst, ()) aDv.snd.snd.fst.subs, ()), (cDv.fst,
  cDv.snd.fst, Rose.node ((cDv.snd.snd.fst.val.fst.fst, cDv.snd.snd.fst.val.fst.snd.fst, ()), cDv.snd.snd.fst.val.snd.fst, ()) cDv.snd.snd.fst.subs, ()), true) = (aDv, cDv, true))
  ∧ (((aDv.fst, aDv.snd.fst, Rose.node ((aDv.snd.snd.fst.val.fst.fst, aDv.snd.snd.fst.val.fst.snd.fst, ()), aDv.snd.snd.fst.val.snd.fst, ()) aDv.snd.snd.fst.subs, ()), (cDv.fst,
  cDv.snd.fst, Rose.node ((cDv.snd.snd.fst.val.fst.fst, cDv.snd.snd.fst.val.fst.snd.fst, ()), cDv.snd.snd.fst.val.snd.fst, ()) cDv.snd.snd.fst.subs, ()), true) = (aDv, cDv, true) ∧
  ((aDv.fst, aDv.snd.fst, Rose.node ((aDv.snd.snd.fst.val.fst.fst, aDv.snd.snd.fst.val.fst.snd.fst, ()), aDv.snd.snd.fst.val.snd.fst, ()) aDv.snd.snd.fst.subs, ()), (cDv.fst,
  cDv.snd.fst, Rose.node ((cDv.snd.snd.fst.val.fst.fst, cDv.snd.snd.fst.val.fst.snd.fst, ()), cDv.snd.snd.fst.val.snd.fst, ()) cDv.snd.snd.fst.subs, ()), true) = (aDv, cDv, true))
  ∧ ((aDv.fst, aDv.snd.fst, Rose.node ((aDv.snd.snd.fst.val.fst.fst, aDv.snd.snd.fst.val.fst.snd.fst, ()), aDv.snd.snd.fst.val.snd.fst, ()) aDv.snd.snd.fst.subs, ()), (cDv.fst,
  cDv.snd.fst, Rose.node ((cDv.snd.snd.fst.val.fst.fst, cDv.snd.snd.fst.val.fst.snd.fst, ()), cDv.snd.snd.fst.val.snd.fst, ()) cDv.snd.snd.fst.subs, ()), true) = (aDv, cDv, true))
  ∧ ((((((aDv.fst, aDv.snd.fst, Rose.node ((aDv.snd.snd.fst.val.fst.fst, aDv.snd.snd.fst.val.fst.snd.fst, ()), aDv.snd.snd.fst.val.snd.fst, ()) aDv.snd.snd.fst.subs, ()), (cDv.fst,
  cDv.snd.fst, Rose.node ((cDv.snd.snd.fst.val.fst.fst, cDv.snd.snd.fst.val.fst.snd.fst, ()), cDv.snd.snd.fst.val.snd.fst, ()) cDv.snd.snd.fst.subs, ()), true) = (aDv, cDv, true) ∧
  ((aDv.fst, aDv.snd.fst, Rose.node ((aDv.snd.snd.fst.val.fst.fst, aDv.snd.snd.fst.val.fst.snd.fst, ()), aDv.snd.snd.fst.val.snd.fst, ()) aDv.snd.snd.fst.subs, ()), (cDv.fst,
  cDv.snd.fst, Rose.node ((cDv.snd.snd.fst.val.fst.fst, cDv.snd.snd.fst.val.fst.snd.fst, ()), cDv.snd.snd.fst.val.snd.fst, ()) cDv.snd.snd.fst.subs, ()), true) = (aDv, cDv, true) ∧
  ((aDv.fst, aDv.snd.fst, Rose.node ((aDv.snd.snd.fst.val.fst.fst, aDv.snd.snd.fst.val.fst.snd.fst, ()), aDv.snd.snd.fst.val.snd.fst, ()) aDv.snd.snd.fst.subs, ()), (cDv.fst,
  cDv.snd.fst, Rose.node ((cDv.snd.snd.fst.val.fst.fst, cDv.snd.snd.fst.val.fst.snd.fst, ()), cDv.snd.snd.fst.val.snd.fst, ()) cDv.snd.snd.fst.subs, ()), true) = (aDv, cDv, true))
  ∧ (((aDv.fst, aDv.snd.fst, Rose.node ((aDv.snd.snd.fst.val.fst.fst, aDv.snd.snd.fst.val.fst.snd.fst, ()), aDv.snd.snd.fst.val.snd.fst, ()) aDv.snd.snd.fst.subs, ()), (cDv.fst,
  cDv.snd.fst, Rose.node ((cDv.snd.snd.fst.val.fst.fst, cDv.snd.snd.fst.val.fst.snd.fst, ()), cDv.snd.snd.fst.val.snd.fst, ()) cDv.snd.snd.fst.subs, ()), true) = (aDv, cDv, true) ∧
  ((aDv.fst, aDv.snd.fst, Rose.node ((aDv.snd.snd.fst.val.fst.fst, aDv.snd.snd.fst.val.fst.snd.fst, ()), aDv.snd.snd.fst.val.snd.fst, ()) aDv.snd.snd.fst.subs, ()), (cDv.fst,
  cDv.snd.fst, Rose.node ((cDv.snd.snd.fst.val.fst.fst, cDv.snd.snd.fst.val.fst.snd.fst, ()), cDv.snd.snd.fst.val.snd.fst, ()) cDv.snd.snd.fst.subs, ()), true) = (aDv, cDv, true))
  ∧ ((aDv.fst, aDv.snd.fst, Rose.node ((aDv.snd.snd.fst.val.fst.fst, aDv.snd.snd.fst.val.fst.snd.fst, ()), aDv.snd.snd.fst.val.snd.fst, ()) aDv.snd.snd.fst.subs, ()), (cDv.fst,
  cDv.snd.fst, Rose.node ((cDv.snd.snd.fst.val.fst.fst, cDv.snd.snd.fst.val.fst.snd.fst, ()), cDv.snd.snd.fst.val.snd.fst, ()) cDv.snd.snd.fst.subs, ()), true) = (aDv, cDv, true))
  ∧ ((((aDv.fst, aDv.snd.fst, Rose.node ((aDv.snd.snd.fst.val.fst.fst, aDv.snd.snd.fst.val.fst.snd.fst, ()), aDv.snd.snd.fst.val.snd.fst, ()) aDv.snd.snd.fst.subs, ()), (cDv.fst,
  cDv.snd.fst, Rose.node ((cDv.snd.snd.fst.val.fst.fst, cDv.snd.snd.fst.val.fst.snd.fst, ()), cDv.snd.snd.fst.val.snd.fst, ()) cDv.snd.snd.fst.subs, ()), true) = (aDv, cDv, true) ∧
  ((aDv.fst, aDv.snd.fst, Rose.node ((aDv.snd.snd.fst.val.fst.fst, aDv.snd.snd.fst.val.fst.snd.fst, ()), aDv.snd.snd.fst.val.snd.fst, ()) aDv.snd.snd.fst.subs, ()), (cDv.fst,
  cDv.snd.fst, Rose.node ((cDv.snd.snd.fst.val.fst.fst, cDv.snd.snd.fst.val.fst.snd.fst, ()), cDv.snd.snd.fst.val.snd.fst, ()) cDv.snd.snd.fst.subs, ()), true) = (aDv, cDv, true))
  ∧ ((aDv.fst, aDv.snd.fst, Rose.node ((aDv.snd.snd.fst.val.fst.fst, aDv.snd.snd.fst.val.fst.snd.fst, ()), aDv.snd.snd.fst.val.snd.fst, ()) aDv.snd.snd.fst.subs, ()), (cDv.fst,
  cDv.snd.fst, Rose.node ((cDv.snd.snd.fst.val.fst.fst, cDv.snd.snd.fst.val.fst.snd.fst, ()), cDv.snd.snd.fst.val.snd.fst, ()) cDv.snd.snd.fst.subs, ()), true) = (aDv, cDv, true))
  ∧ ((aDv.fst, aDv.snd.fst, Rose.node ((aDv.snd.snd.fst.val.fst.fst, aDv.snd.snd.fst.val.fst.snd.fst, ()), aDv.snd.snd.fst.val.snd.fst, ()) aDv.snd.snd.fst.subs, ()), (cDv.fst,
  cDv.snd.fst, Rose.node ((cDv.snd.snd.fst.val.fst.fst, cDv.snd.snd.fst.val.fst.snd.fst, ()), cDv.snd.snd.fst.val.snd.fst, ()) cDv.snd.snd.fst.subs, ()), true) = (aDv, cDv, true))
  ∧ ((((aDv.fst, aDv.snd.fst, Rose.node ((aDv.snd.snd.fst.val.fst.fst, aDv.snd.snd.fst.val.fst.snd.fst, ()), aDv.snd.snd.fst.val.snd.fst, ()) aDv.snd.snd.fst.subs, ()), (cDv.fst,
  cDv.snd.fst, Rose.node ((cDv.snd.snd.fst.val.fst.fst, cDv.snd.snd.fst.val.fst.snd.fst, ()), cDv.snd.snd.fst.val.snd.fst, ()) cDv.snd.snd.fst.subs, ()), true) = (aDv, cDv, true) ∧
  ((aDv.fst, aDv.snd.fst, Rose.node ((aDv.snd.snd.fst.val.fst.fst, aDv.snd.snd.fst.val.fst.snd.fst, ()), aDv.snd.snd.fst.val.snd.fst, ()) aDv.snd.snd.fst.subs, ()), (cDv.fst,
  cDv.snd.fst, Rose.node ((cDv.snd.snd.fst.val.fst.fst, cDv.snd.snd.fst.val.fst.snd.fst, ()), cDv.snd.snd.fst.val.snd.fst, ()) cDv.snd.snd.fst.subs, ()), true) = (aDv, cDv, true) ∧
  ((aDv.fst, aDv.snd.fst, Rose.node ((aDv.snd.snd.fst.val.fst.fst, aDv.snd.snd.fst.val.fst.snd.fst, ()), aDv.snd.snd.fst.val.snd.fst, ()) aDv.snd.snd.fst.subs, ()), (cDv.fst,
  cDv.snd.fst, Rose.node ((cDv.snd.snd.fst.val.fst.fst, cDv.snd.snd.fst.val.fst.snd.fst, ()), cDv.snd.snd.fst.val.snd.fst, ()) cDv.snd.snd.fst.subs, ()), true) = (aDv, cDv, true))
  ∧ (((aDv.fst, aDv.snd.fst, Rose.node ((aDv.snd.snd.fst.val.fst.fst, aDv.snd.snd.fst.val.fst.snd.fst, ()), aDv.snd.snd.fst.val.snd.fst, ()) aDv.snd.snd.fst.subs, ()), (cDv.fst,
  cDv.snd.fst, Rose.node ((cDv.snd.snd.fst.val.fst.fst, cDv.snd.snd.fst.val.fst.snd.fst, ()), cDv.snd.snd.fst.val.snd.fst, ()) cDv.snd.snd.fst.subs, ()), true) = (aDv, cDv, true) ∧
  ((aDv.fst, aDv.snd.fst, Rose.node ((aDv.snd.snd.fst.val.fst.fst, aDv.snd.snd.fst.val.fst.snd.fst, ()), aDv.snd.snd.fst.val.snd.fst, ()) aDv.snd.snd.fst.subs, ()), (cDv.fst,
  cDv.snd.fst, Rose.node ((cDv.snd.snd.fst.val.fst.fst, cDv.snd.snd.fst.val.fst.snd.fst, ()), cDv.snd.snd.fst.val.snd.fst, ()) cDv.snd.snd.fst.subs, ()), true) = (aDv, cDv, true))
  ∧ ((aDv.fst, aDv.snd.fst, Rose.node ((aDv.snd.snd.fst.val.fst.fst, aDv.snd.snd.fst.val.fst.snd.fst, ()), aDv.snd.snd.fst.val.snd.fst, ()) aDv.snd.snd.fst.subs, ()), (cDv.fst,
  cDv.snd.fst, Rose.node ((cDv.snd.snd.fst.val.fst.fst, cDv.snd.snd.fst.val.fst.snd.fst, ()), cDv.snd.snd.fst.val.snd.fst, ()) cDv.snd.snd.fst.subs, ()), true) = (aDv, cDv, true))
  ∧ (((aDv.fst, aDv.snd.fst, Rose.node ((aDv.snd.snd.fst.val.fst.fst, aDv.snd.snd.fst.val.fst.snd.fst, ()), aDv.snd.snd.fst.val.snd.fst, ()) aDv.snd.snd.fst.subs, ()), (cDv.fst,
  cDv.snd.fst, Rose.node ((cDv.snd.snd.fst.val.fst.fst, cDv.snd.snd.fst.val.fst.snd.fst, ()), cDv.snd.snd.fst.val.snd.fst, ()) cDv.snd.snd.fst.subs, ()), true) = (aDv, cDv, true) ∧
  ((aDv.fst, aDv.snd.fst, Rose.node ((aDv.snd.snd.fst.val.fst.fst, aDv.snd.snd.fst.val.fst.snd.fst, ()), aDv.snd.snd.fst.val.snd.fst, ()) aDv.snd.snd.fst.subs, ()), (cDv.fst,
  cDv.snd.fst, Rose.node ((cDv.snd.snd.fst.val.fst.fst, cDv.snd.snd.fst.val.fst.snd.fst, ()), cDv.snd.snd.fst.val.snd.fst, ()) cDv.snd.snd.fst.subs, ()), true) = (aDv, cDv, true) ∧
  ((aDv.fst, aDv.snd.fst, Rose.node ((aDv.snd.snd.fst.val.fst.fst, aDv.snd.snd.fst.val.fst.snd.fst, ()), aDv.snd.snd.fst.val.snd.fst, ()) aDv.snd.snd.fst.subs, ()), (cDv.fst,
  cDv.snd.fst, Rose.node ((cDv.snd.snd.fst.val.fst.fst, cDv.snd.snd.fst.val.fst.snd.fst, ()), cDv.snd.snd.fst.val.snd.fst, ()) cDv.snd.snd.fst.subs, ()), true) = (aDv, cDv, true))
  ∧ ((aDv.fst, aDv.snd.fst, Rose.node ((aDv.snd.snd.fst.val.fst.fst, aDv.snd.snd.fst.val.fst.snd.fst, ()), aDv.snd.snd.fst.val.snd.fst, ()) aDv.snd.snd.fst.subs, ()), (cDv.fst,
  cDv.snd.fst, Rose.node ((cDv.snd.snd.fst.val.fst.fst, cDv.snd.snd.fst.val.fst.snd.fst, ()), cDv.snd.snd.fst.val.snd.fst, ()) cDv.snd.snd.fst.subs, ()), true) = (aDv, cDv, true))
  ∧ (((((aDv.fst, aDv.snd.fst, Rose.node ((aDv.snd.snd.fst.val.fst.fst, aDv.snd.snd.fst.val.fst.snd.fst, ()), aDv.snd.snd.fst.val.snd.fst, ()) aDv.snd.snd.fst.subs, ()), (cDv.fst,
  cDv.snd.fst, Rose.node ((cDv.snd.snd.fst.val.fst.fst, cDv.snd.snd.fst.val.fst.snd.fst, ()), cDv.snd.snd.fst.val.snd.fst, ()) cDv.snd.snd.fst.subs, ()), true) = (aDv, cDv, true) ∧
  ((aDv.fst, aDv.snd.fst, Rose.node ((aDv.snd.snd.fst.val.fst.fst, aDv.snd.snd.fst.val.fst.snd.fst, ()), aDv.snd.snd.fst.val.snd.fst, ()) aDv.snd.snd.fst.subs, ()), (cDv.fst,
  cDv.snd.fst, Rose.node ((cDv.snd.snd.fst.val.fst.fst, cDv.snd.snd.fst.val.fst.snd.fst, ()), cDv.snd.snd.fst.val.snd.fst, ()) cDv.snd.snd.fst.subs, ()), true) = (aDv, cDv, true) ∧
  ((aDv.fst, aDv.snd.fst, Rose.node ((aDv.snd.snd.fst.val.fst.fst, aDv.snd.snd.fst.val.fst.snd.fst, ()), aDv.snd.snd.fst.val.snd.fst, ()) aDv.snd.snd.fst.subs, ()), (cDv.fst,
  cDv.snd.fst, Rose.node ((cDv.snd.snd.fst.val.fst.fst, cDv.snd.snd.fst.val.fst.snd.fst, ()), cDv.snd.snd.fst.val.snd.fst, ()) cDv.snd.snd.fst.subs, ()), true) = (aDv, cDv, true))
  ∧ (((aDv.fst, aDv.snd.fst, Rose.node ((aDv.snd.snd.fst.val.fst.fst, aDv.snd.snd.fst.val.fst.snd.fst, ()), aDv.snd.snd.fst.val.snd.fst, ()) aDv.snd.snd.fst.subs, ()), (cDv.fst,
  cDv.snd.fst, Rose.node ((cDv.snd.snd.fst.val.fst.fst, cDv.snd.snd.fst.val.fst.snd.fst, ()), cDv.snd.snd.fst.val.snd.fst, ()) cDv.snd.snd.fst.subs, ()), true) = (aDv, cDv, true) ∧
  ((aDv.fst, aDv.snd.fst, Rose.node ((aDv.snd.snd.fst.val.fst.fst, aDv.snd.snd.fst.val.fst.snd.fst, ()), aDv.snd.snd.fst.val.snd.fst, ()) aDv.snd.snd.fst.subs, ()), (cDv.fst,
  cDv.snd.fst, Rose.node ((cDv.snd.snd.fst.val.fst.fst, cDv.snd.snd.fst.val.fst.snd.fst, ()), cDv.snd.snd.fst.val.snd.fst, ()) cDv.snd.snd.fst.subs, ()), true) = (aDv, cDv, true))
  ∧ ((aDv.fst, aDv.snd.fst, Rose.node ((aDv.snd.snd.fst.val.fst.fst, aDv.snd.snd.fst.val.fst.snd.fst, ()), aDv.snd.snd.fst.val.snd.fst, ()) aDv.snd.snd.fst.subs, ()), (cDv.fst,
  cDv.snd.fst, Rose.node ((cDv.snd.snd.fst.val.fst.fst, cDv.snd.snd.fst.val.fst.snd.fst, ()), cDv.snd.snd.fst.val.snd.fst, ()) cDv.snd.snd.fst.subs, ()), true) = (aDv, cDv, true))
  ∧ ((((aDv.fst, aDv.snd.fst, Rose.node ((aDv.snd.snd.fst.val.fst.fst, aDv.snd.snd.fst.val.fst.snd.fst, ()), aDv.snd.snd.fst.val.snd.fst, ()) aDv.snd.snd.fst.subs, ()), (cDv.fst,
  cDv.snd.fst, Rose.node ((cDv.snd.snd.fst.val.fst.fst, cDv.snd.snd.fst.val.fst.snd.fst, ()), cDv.snd.snd.fst.val.snd.fst, ()) cDv.snd.snd.fst.subs, ()), true) = (aDv, cDv, true) ∧
  ((aDv.fst, aDv.snd.fst, Rose.node ((aDv.snd.snd.fst.val.fst.fst, aDv.snd.snd.fst.val.fst.snd.fst, ()), aDv.snd.snd.fst.val.snd.fst, ()) aDv.snd.snd.fst.subs, ()), (cDv.fst,
  cDv.snd.fst, Rose.node ((cDv.snd.snd.fst.val.fst.fst, cDv.snd.snd.fst.val.fst.snd.fst, ()), cDv.snd.snd.fst.val.snd.fst, ()) cDv.snd.snd.fst.subs, ()), true) = (aDv, cDv, true) ∧
  ((aDv.fst, aDv.snd.fst, Rose.node ((aDv.snd.snd.fst.val.fst.fst, aDv.snd.snd.fst.val.fst.snd.fst, ()), aDv.snd.snd.fst.val.snd.fst, ()) aDv.snd.snd.fst.subs, ()), (cDv.fst,
  cDv.snd.fst, Rose.node ((cDv.snd.snd.fst.val.fst.fst, cDv.snd.snd.fst.val.fst.snd.fst, ()), cDv.snd.snd.fst.val.snd.fst, ()) cDv.snd.snd.fst.subs, ()), true) = (aDv, cDv, true))
  ∧ (((aDv.fst, aDv.snd.fst, Rose.node ((aDv.snd.snd.fst.val.fst.fst, aDv.snd.snd.fst.val.fst.snd.fst, ()), aDv.snd.snd.fst.val.snd.fst, ()) aDv.snd.snd.fst.subs, ()), (cDv.fst,
  cDv.snd.fst, Rose.node ((cDv.snd.snd.fst.val.fst.fst, cDv.snd.snd.fst.val.fst.snd.fst, ()), cDv.snd.snd.fst.val.snd.fst, ()) cDv.snd.snd.fst.subs, ()), true) = (aDv, cDv, true) ∧
  ((aDv.fst, aDv.snd.fst, Rose.node ((aDv.snd.snd.fst.val.fst.fst, aDv.snd.snd.fst.val.fst.snd.fst, ()), aDv.snd.snd.fst.val.snd.fst, ()) aDv.snd.snd.fst.subs, ()), (cDv.fst,
  cDv.snd.fst, Rose.node ((cDv.snd.snd.fst.val.fst.fst, cDv.snd.snd.fst.val.fst.snd.fst, ()), cDv.snd.snd.fst.val.snd.fst, ()) cDv.snd.snd.fst.subs, ()), true) = (aDv, cDv, true))
  ∧ (((aDv.fst, aDv.snd.fst, Rose.node ((aDv.snd.snd.fst.val.fst.fst, aDv.snd.snd.fst.val.fst.snd.fst, ()), aDv.snd.snd.fst.val.snd.fst, ()) aDv.snd.snd.fst.subs, ()), (cDv.fst,
  cDv.snd.fst, Rose.node ((cDv.snd.snd.fst.val.fst.fst, cDv.snd.snd.fst.val.fst.snd.fst, ()), cDv.snd.snd.fst.val.snd.fst, ()) cDv.snd.snd.fst.subs, ()), true) = (aDv, cDv, true) ∧
  ((aDv.fst, aDv.snd.fst, Rose.node ((aDv.snd.snd.fst.val.fst.fst, aDv.snd.snd.fst.val.fst.snd.fst, ()), aDv.snd.snd.fst.val.snd.fst, ()) aDv.snd.snd.fst.subs, ()), (cDv.fst,
  cDv.snd.fst, Rose.node ((cDv.snd.snd.fst.val.fst.fst, cDv.snd.snd.fst.val.fst.snd.fst, ()), cDv.snd.snd.fst.val.snd.fst, ()) cDv.snd.snd.fst.subs, ()), true) = (aDv, cDv, true))
  ∧ ((aDv.fst, aDv.snd.fst, Rose.node ((aDv.snd.snd.fst.val.fst.fst, aDv.snd.snd.fst.val.fst.snd.fst, ()), aDv.snd.snd.fst.val.snd.fst, ()) aDv.snd.snd.fst.subs, ()), (cDv.fst,
  cDv.snd.fst, Rose.node ((cDv.snd.snd.fst.val.fst.fst, cDv.snd.snd.fst.val.fst.snd.fst, ()), cDv.snd.snd.fst.val.snd.fst, ()) cDv.snd.snd.fst.subs, ()), true) = (aDv, cDv, true))
  ∧ ((((aDv.fst, aDv.snd.fst, Rose.node ((aDv.snd.snd.fst.val.fst.fst, aDv.snd.snd.fst.val.fst.snd.fst, ()), aDv.snd.snd.fst.val.snd.fst, ()) aDv.snd.snd.fst.subs, ()), (cDv.fst,
  cDv.snd.fst, Rose.node ((cDv.snd.snd.fst.val.fst.fst, cDv.snd.snd.fst.val.fst.snd.fst, ()), cDv.snd.snd.fst.val.snd.fst, ()) cDv.snd.snd.fst.subs, ()), true) = (aDv, cDv, true) ∧
  ((aDv.fst, aDv.snd.fst, Rose.node ((aDv.snd.snd.fst.val.fst.fst, aDv.snd.snd.fst.val.fst.snd.fst, ()), aDv.snd.snd.fst.val.snd.fst, ()) aDv.snd.snd.fst.subs, ()), (cDv.fst,
  cDv.snd.fst, Rose.node ((cDv.snd.snd.fst.val.fst.fst, cDv.snd.snd.fst.val.fst.snd.fst, ()), cDv.snd.snd.fst.val.snd.fst, ()) cDv.snd.snd.fst.subs, ()), true) = (aDv, cDv, true))
  ∧ ((aDv.fst, aDv.snd.fst, Rose.node ((aDv.snd.snd.fst.val.fst.fst, aDv.snd.snd.fst.val.fst.snd.fst, ()), aDv.snd.snd.fst.val.snd.fst, ()) aDv.snd.snd.fst.subs, ()), (cDv.fst,
  cDv.snd.fst, Rose.node ((cDv.snd.snd.fst.val.fst.fst, cDv.snd.snd.fst.val.fst.snd.fst, ()), cDv.snd.snd.fst.val.snd.fst, ()) cDv.snd.snd.fst.subs, ()), true) = (aDv, cDv, true))
  ∧ (((aDv.fst, aDv.snd.fst, Rose.node ((aDv.snd.snd.fst.val.fst.fst, aDv.snd.snd.fst.val.fst.snd.fst, ()), aDv.snd.snd.fst.val.snd.fst, ()) aDv.snd.snd.fst.subs, ()), (cDv.fst,
  cDv.snd.fst, Rose.node ((cDv.snd.snd.fst.val.fst.fst, cDv.snd.snd.fst.val.fst.snd.fst, ()), cDv.snd.snd.fst.val.snd.fst, ()) cDv.snd.snd.fst.subs, ()), true) = (aDv, cDv, true) ∧
  ((aDv.fst, aDv.snd.fst, Rose.node ((aDv.snd.snd.fst.val.fst.fst, aDv.snd.snd.fst.val.fst.snd.fst, ()), aDv.snd.snd.fst.val.snd.fst, ()) aDv.snd.snd.fst.subs, ()), (cDv.fst,
  cDv.snd.fst, Rose.node ((cDv.snd.snd.fst.val.fst.fst, cDv.snd.snd.fst.val.fst.snd.fst, ()), cDv.snd.snd.fst.val.snd.fst, ()) cDv.snd.snd.fst.subs, ()), true) = (aDv, cDv, true))
  ∧ ((aDv.fst, aDv.snd.fst, Rose.node ((aDv.snd.snd.fst.val.fst.fst, aDv.snd.snd.fst.val.fst.snd.fst, ()), aDv.snd.snd.fst.val.snd.fst, ()) aDv.snd.snd.fst.subs, ()), (cDv.fst,
  cDv.snd.fst, Rose.node ((cDv.snd.snd.fst.val.fst.fst, cDv.snd.snd.fst.val.fst.snd.fst, ()), cDv.snd.snd.fst.val.snd.fst, ()) cDv.snd.snd.fst.subs, ()), true) = (aDv, cDv, true))
  ∧ (((((aDv.fst, aDv.snd.fst, Rose.node ((aDv.snd.snd.fst.val.fst.fst, aDv.snd.snd.fst.val.fst.snd.fst, ()), aDv.snd.snd.fst.val.snd.fst, ()) aDv.snd.snd.fst.subs, ()), (cDv.fst,
  cDv.snd.fst, Rose.node ((cDv.snd.snd.fst.val.fst.fst, cDv.snd.snd.fst.val.fst.snd.fst, ()), cDv.snd.snd.fst.val.snd.fst, ()) cDv.snd.snd.fst.subs, ()), true) = (aDv, cDv, true) ∧
  ((aDv.fst, aDv.snd.fst, Rose.node ((aDv.snd.snd.fst.val.fst.fst, aDv.snd.snd.fst.val.fst.snd.fst, ()), aDv.snd.snd.fst.val.snd.fst, ()) aDv.snd.snd.fst.subs, ()), (cDv.fst,
  cDv.snd.fst, Rose.node ((cDv.snd.snd.fst.val.fst.fst, cDv.snd.snd.fst.val.fst.snd.fst, ()), cDv.snd.snd.fst.val.snd.fst, ()) cDv.snd.snd.fst.subs, ()), true) = (aDv, cDv, true) ∧
  ((aDv.fst, aDv.snd.fst, Rose.node ((aDv.snd.snd.fst.val.fst.fst, aDv.snd.snd.fst.val.fst.snd.fst, ()), aDv.snd.snd.fst.val.snd.fst, ()) aDv.snd.snd.fst.subs, ()), (cDv.fst,
  cDv.snd.fst, Rose.node ((cDv.snd.snd.fst.val.fst.fst, cDv.snd.snd.fst.val.fst.snd.fst, ()), cDv.snd.snd.fst.val.snd.fst, ()) cDv.snd.snd.fst.subs, ()), true) = (aDv, cDv, true))
  ∧ (((aDv.fst, aDv.snd.fst, Rose.node ((aDv.snd.snd.fst.val.fst.fst, aDv.snd.snd.fst.val.fst.snd.fst, ()), aDv.snd.snd.fst.val.snd.fst, ()) aDv.snd.snd.fst.subs, ()), (cDv.fst,
  cDv.snd.fst, Rose.node ((cDv.snd.snd.fst.val.fst.fst, cDv.snd.snd.fst.val.fst.snd.fst, ()), cDv.snd.snd.fst.val.snd.fst, ()) cDv.snd.snd.fst.subs, ()), true) = (aDv, cDv, true) ∧
  ((aDv.fst, aDv.snd.fst, Rose.node ((aDv.snd.snd.fst.val.fst.fst, aDv.snd.snd.fst.val.fst.snd.fst, ()), aDv.snd.snd.fst.val.snd.fst, ()) aDv.snd.snd.fst.subs, ()), (cDv.fst,
  cDv.snd.fst, Rose.node ((cDv.snd.snd.fst.val.fst.fst, cDv.snd.snd.fst.val.fst.snd.fst, ()), cDv.snd.snd.fst.val.snd.fst, ()) cDv.snd.snd.fst.subs, ()), true) = (aDv, cDv, true))
  ∧ ((aDv.fst, aDv.snd.fst, Rose.node ((aDv.snd.snd.fst.val.fst.fst, aDv.snd.snd.fst.val.fst.snd.fst, ()), aDv.snd.snd.fst.val.snd.fst, ()) aDv.snd.snd.fst.subs, ()), (cDv.fst,
  cDv.snd.fst, Rose.node ((cDv.snd.snd.fst.val.fst.fst, cDv.snd.snd.fst.val.fst.snd.fst, ()), cDv.snd.snd.fst.val.snd.fst, ()) cDv.snd.snd.fst.subs, ()), true) = (aDv, cDv, true))
  ∧ (((aDv.fst, aDv.snd.fst, Rose.node ((aDv.snd.snd.fst.val.fst.fst, aDv.snd.snd.fst.val.fst.snd.fst, ()), aDv.snd.snd.fst.val.snd.fst, ()) aDv.snd.snd.fst.subs, ()), (cDv.fst,
  cDv.snd.fst, Rose.node ((cDv.snd.snd.fst.val.fst.fst, cDv.snd.snd.fst.val.fst.snd.fst, ()), cDv.snd.snd.fst.val.snd.fst, ()) cDv.snd.snd.fst.subs, ()), true) = (aDv, cDv, true) ∧
  ((aDv.fst, aDv.snd.fst, Rose.node ((aDv.snd.snd.fst.val.fst.fst, aDv.snd.snd.fst.val.fst.snd.fst, ()), aDv.snd.snd.fst.val.snd.fst, ()) aDv.snd.snd.fst.subs, ()), (cDv.fst,
  cDv.snd.fst, Rose.node ((cDv.snd.snd.fst.val.fst.fst, cDv.snd.snd.fst.val.fst.snd.fst, ()), cDv.snd.snd.fst.val.snd.fst, ()) cDv.snd.snd.fst.subs, ()), true) = (aDv, cDv, true) ∧
  ((aDv.fst, aDv.snd.fst, Rose.node ((aDv.snd.snd.fst.val.fst.fst, aDv.snd.snd.fst.val.fst.snd.fst, ()), aDv.snd.snd.fst.val.snd.fst, ()) aDv.snd.snd.fst.subs, ()), (cDv.fst,
  cDv.snd.fst, Rose.node ((cDv.snd.snd.fst.val.fst.fst, cDv.snd.snd.fst.val.fst.snd.fst, ()), cDv.snd.snd.fst.val.snd.fst, ()) cDv.snd.snd.fst.subs, ()), true) = (aDv, cDv, true))
  ∧ ((aDv.fst, aDv.snd.fst, Rose.node ((aDv.snd.snd.fst.val.fst.fst, aDv.snd.snd.fst.val.fst.snd.fst, ()), aDv.snd.snd.fst.val.snd.fst, ()) aDv.snd.snd.fst.subs, ()), (cDv.fst,
  cDv.snd.fst, Rose.node ((cDv.snd.snd.fst.val.fst.fst, cDv.snd.snd.fst.val.fst.snd.fst, ()), cDv.snd.snd.fst.val.snd.fst, ()) cDv.snd.snd.fst.subs, ()), true) = (aDv, cDv, true))
  ∧ ((((aDv.fst, aDv.snd.fst, Rose.node ((aDv.snd.snd.fst.val.fst.fst, aDv.snd.snd.fst.val.fst.snd.fst, ()), aDv.snd.snd.fst.val.snd.fst, ()) aDv.snd.snd.fst.subs, ()), (cDv.fst,
  cDv.snd.fst, Rose.node ((cDv.snd.snd.fst.val.fst.fst, cDv.snd.snd.fst.val.fst.snd.fst, ()), cDv.snd.snd.fst.val.snd.fst, ()) cDv.snd.snd.fst.subs, ()), true) = (aDv, cDv, true) ∧
  ((aDv.fst, aDv.snd.fst, Rose.node ((aDv.snd.snd.fst.val.fst.fst, aDv.snd.snd.fst.val.fst.snd.fst, ()), aDv.snd.snd.fst.val.snd.fst, ()) aDv.snd.snd.fst.subs, ()), (cDv.fst,
  cDv.snd.fst, Rose.node ((cDv.snd.snd.fst.val.fst.fst, cDv.snd.snd.fst.val.fst.snd.fst, ()), cDv.snd.snd.fst.val.snd.fst, ()) cDv.snd.snd.fst.subs, ()), true) = (aDv, cDv, true) ∧
  ((aDv.fst, aDv.snd.fst, Rose.node ((aDv.snd.snd.fst.val.fst.fst, aDv.snd.snd.fst.val.fst.snd.fst, ()), aDv.snd.snd.fst.val.snd.fst, ()) aDv.snd.snd.fst.subs, ()), (cDv.fst,
  cDv.snd.fst, Rose.node ((cDv.snd.snd.fst.val.fst.fst, cDv.snd.snd.fst.val.fst.snd.fst, ()), cDv.snd.snd.fst.val.snd.fst, ()) cDv.snd.snd.fst.subs, ()), true) = (aDv, cDv, true))
  ∧ (((aDv.fst, aDv.snd.fst, Rose.node ((aDv.snd.snd.fst.val.fst.fst, aDv.snd.snd.fst.val.fst.snd.fst, ()), aDv.snd.snd.fst.val.snd.fst, ()) aDv.snd.snd.fst.subs, ()), (cDv.fst,
  cDv.snd.fst, Rose.node ((cDv.snd.snd.fst.val.fst.fst, cDv.snd.snd.fst.val.fst.snd.fst, ()), cDv.snd.snd.fst.val.snd.fst, ()) cDv.snd.snd.fst.subs, ()), true) = (aDv, cDv, true) ∧
  ((aDv.fst, aDv.snd.fst, Rose.node ((aDv.snd.snd.fst.val.fst.fst, aDv.snd.snd.fst.val.fst.snd.fst, ()), aDv.snd.snd.fst.val.snd.fst, ()) aDv.snd.snd.fst.subs, ()), (cDv.fst,
  cDv.snd.fst, Rose.node ((cDv.snd.snd.fst.val.fst.fst, cDv.snd.snd.fst.val.fst.snd.fst, ()), cDv.snd.snd.fst.val.snd.fst, ()) cDv.snd.snd.fst.subs, ()), true) = (aDv, cDv, true))
  ∧ (((aDv.fst, aDv.snd.fst, Rose.node ((aDv.snd.snd.fst.val.fst.fst, aDv.snd.snd.fst.val.fst.snd.fst, ()), aDv.snd.snd.fst.val.snd.fst, ()) aDv.snd.snd.fst.subs, ()), (cDv.fst,
  cDv.snd.fst, Rose.node ((cDv.snd.snd.fst.val.fst.fst, cDv.snd.snd.fst.val.fst.snd.fst, ()), cDv.snd.snd.fst.val.snd.fst, ()) cDv.snd.snd.fst.subs, ()), true) = (aDv, cDv, true) ∧
  ((aDv.fst, aDv.snd.fst, Rose.node ((aDv.snd.snd.fst.val.fst.fst, aDv.snd.snd.fst.val.fst.snd.fst, ()), aDv.snd.snd.fst.val.snd.fst, ()) aDv.snd.snd.fst.subs, ()), (cDv.fst,
  cDv.snd.fst, Rose.node ((cDv.snd.snd.fst.val.fst.fst, cDv.snd.snd.fst.val.fst.snd.fst, ()), cDv.snd.snd.fst.val.snd.fst, ()) cDv.snd.snd.fst.subs, ()), true) = (aDv, cDv, true))
  ∧ ((aDv.fst, aDv.snd.fst, Rose.node ((aDv.snd.snd.fst.val.fst.fst, aDv.snd.snd.fst.val.fst.snd.fst, ()), aDv.snd.snd.fst.val.snd.fst, ()) aDv.snd.snd.fst.subs, ()), (cDv.fst,
  cDv.snd.fst, Rose.node ((cDv.snd.snd.fst.val.fst.fst, cDv.snd.snd.fst.val.fst.snd.fst, ()), cDv.snd.snd.fst.val.snd.fst, ()) cDv.snd.snd.fst.subs, ()), true) = (aDv, cDv, true))
  ∧ ((((aDv.fst, aDv.snd.fst, Rose.node ((aDv.snd.snd.fst.val.fst.fst, aDv.snd.snd.fst.val.fst.snd.fst, ()), aDv.snd.snd.fst.val.snd.fst, ()) aDv.snd.snd.fst.subs, ()), (cDv.fst,
  cDv.snd.fst, Rose.node ((cDv.snd.snd.fst.val.fst.fst, cDv.snd.snd.fst.val.fst.snd.fst, ()), cDv.snd.snd.fst.val.snd.fst, ()) cDv.snd.snd.fst.subs, ()), true) = (aDv, cDv, true) ∧
  ((aDv.fst, aDv.snd.fst, Rose.node ((aDv.snd.snd.fst.val.fst.fst, aDv.snd.snd.fst.val.fst.snd.fst, ()), aDv.snd.snd.fst.val.snd.fst, ()) aDv.snd.snd.fst.subs, ()), (cDv.fst,
  cDv.snd.fst, Rose.node ((cDv.snd.snd.fst.val.fst.fst, cDv.snd.snd.fst.val.fst.snd.fst, ()), cDv.snd.snd.fst.val.snd.fst, ()) cDv.snd.snd.fst.subs, ()), true) = (aDv, cDv, true) ∧
  ((aDv.fst, aDv.snd.fst, Rose.node ((aDv.snd.snd.fst.val.fst.fst, aDv.snd.snd.fst.val.fst.snd.fst, ()), aDv.snd.snd.fst.val.snd.fst, ()) aDv.snd.snd.fst.subs, ()), (cDv.fst,
  cDv.snd.fst, Rose.node ((cDv.snd.snd.fst.val.fst.fst, cDv.snd.snd.fst.val.fst.snd.fst, ()), cDv.snd.snd.fst.val.snd.fst, ()) cDv.snd.snd.fst.subs, ()), true) = (aDv, cDv, true))
  ∧ ((aDv.fst, aDv.snd.fst, Rose.node ((aDv.snd.snd.fst.val.fst.fst, aDv.snd.snd.fst.val.fst.snd.fst, ()), aDv.snd.snd.fst.val.snd.fst, ()) aDv.snd.snd.fst.subs, ()), (cDv.fst,
  cDv.snd.fst, Rose.node ((cDv.snd.snd.fst.val.fst.fst, cDv.snd.snd.fst.val.fst.snd.fst, ()), cDv.snd.snd.fst.val.snd.fst, ()) cDv.snd.snd.fst.subs, ()), true) = (aDv, cDv, true))
  ∧ ((aDv.fst, aDv.snd.fst, Rose.node ((aDv.snd.snd.fst.val.fst.fst, aDv.snd.snd.fst.val.fst.snd.fst, ()), aDv.snd.snd.fst.val.snd.fst, ()) aDv.snd.snd.fst.subs, ()), (cDv.fst,
  cDv.snd.fst, Rose.node ((cDv.snd.snd.fst.val.fst.fst, cDv.snd.snd.fst.val.fst.snd.fst, ()), cDv.snd.snd.fst.val.snd.fst, ()) cDv.snd.snd.fst.subs, ()), true) = (aDv, cDv, true) ∧
  ((aDv.fst, aDv.snd.fst, Rose.node ((aDv.snd.snd.fst.val.fst.fst, aDv.snd.snd.fst.val.fst.snd.fst, ()), aDv.snd.snd.fst.val.snd.fst, ()) aDv.snd.snd.fst.subs, ()), (cDv.fst,
  cDv.snd.fst, Rose.node ((cDv.snd.snd.fst.val.fst.fst, cDv.snd.snd.fst.val.fst.snd.fst, ()), cDv.snd.snd.fst.val.snd.fst, ()) cDv.snd.snd.fst.subs, ()), true) = (aDv, cDv, true))
  := by kernel_rfl
theorem sanity_nf (i : Int) : fnwp YX 38 10 sanSp () = (True ∧ PL.okV (10 : Nat) (cDv.fst, cDv.snd.fst, Rose.node ((cDv.snd.snd.fst.val.fst.fst, cDv.snd.snd.fst.val.fst.snd.fst,
  ()), cDv.snd.snd.fst.val.snd.fst, ()) cDv.snd.snd.fst.subs, ()) ∧ preA (10 : Nat) (cDv.fst, cDv.snd.fst, Rose.node ((cDv.snd.snd.fst.val.fst.fst, cDv.snd.snd.fst.val.fst.snd.fst,
  ()), cDv.snd.snd.fst.val.snd.fst, ()) cDv.snd.snd.fst.subs, ()) ∧ preA (10 : Nat) (cDv.fst, cDv.snd.fst, Rose.node ((cDv.snd.snd.fst.val.fst.fst, cDv.snd.snd.fst.val.fst.snd.fst,
  ()), cDv.snd.snd.fst.val.snd.fst, ()) cDv.snd.snd.fst.subs, ()) ∧ preA (10 : Nat) (cDv.fst, cDv.snd.fst, Rose.node ((cDv.snd.snd.fst.val.fst.fst, cDv.snd.snd.fst.val.fst.snd.fst,
  ()), cDv.snd.snd.fst.val.snd.fst, ()) cDv.snd.snd.fst.subs, ()) ∧ preA (10 : Nat) (cDv.fst, cDv.snd.fst, Rose.node ((cDv.snd.snd.fst.val.fst.fst, cDv.snd.snd.fst.val.fst.snd.fst,
  ()), cDv.snd.snd.fst.val.snd.fst, ()) cDv.snd.snd.fst.subs, ()) ∧ preA (10 : Nat) (cDv.fst, cDv.snd.fst, Rose.node ((cDv.snd.snd.fst.val.fst.fst, cDv.snd.snd.fst.val.fst.snd.fst,
  ()), cDv.snd.snd.fst.val.snd.fst, ()) cDv.snd.snd.fst.subs, ()) ∧ ((0 : Int) ≤ (0 : Int) ∧ (0 : Int) < (↑(2 : Nat) : Int)) ∧ ((0 : Int) ≤ (0 : Int) ∧ (0 : Int) < (↑(2 : Nat) :
  Int)) ∧ ((0 : Int) ≤ (0 : Int) ∧ (0 : Int) < (↑(2 : Nat) : Int)) ∧ ((0 : Int) ≤ (0 : Int) ∧ (0 : Int) < (↑(2 : Nat) : Int)) ∧ isI64 (1 : Int) ∧ ((0 : Int) ≤ (1 : Int) ∧ (1 : Int)
  < (↑(2 : Nat) : Int)) ∧ ((0 : Int) ≤ (1 : Int) ∧ (1 : Int) < (↑(2 : Nat) : Int)) ∧ ((0 : Int) ≤ (1 : Int) ∧ (1 : Int) < (↑(2 : Nat) : Int)) ∧ ((0 : Int) ≤ (1 : Int) ∧ (1 : Int) <
  (↑(2 : Nat) : Int)) ∧ isI64 (2 : Int) ∧ preA (10 : Nat) (cDv.fst, cDv.snd.fst, Rose.node ((cDv.snd.snd.fst.val.fst.fst, cDv.snd.snd.fst.val.fst.snd.fst, ()),
  cDv.snd.snd.fst.val.snd.fst, ()) cDv.snd.snd.fst.subs, ()) ∧ ((0 : Int) ≤ (0 : Int) ∧ (0 : Int) < (↑(3 : Nat) : Int)) ∧ ((0 : Int) ≤ (0 : Int) ∧ (0 : Int) < (↑(3 : Nat) : Int)) ∧
  ((0 : Int) ≤ (0 : Int) ∧ (0 : Int) < (↑(3 : Nat) : Int)) ∧ ((0 : Int) ≤ (0 : Int) ∧ (0 : Int) < (↑(3 : Nat) : Int)) ∧ isI64 (1 : Int) ∧ ((0 : Int) ≤ (1 : Int) ∧ (1 : Int) < (↑(3
  : Nat) : Int)) ∧ ((0 : Int) ≤ (1 : Int) ∧ (1 : Int) < (↑(3 : Nat) : Int)) ∧ ((0 : Int) ≤ (1 : Int) ∧ (1 : Int) < (↑(3 : Nat) : Int)) ∧ ((0 : Int) ≤ (1 : Int) ∧ (1 : Int) < (↑(3 :
  Nat) : Int)) ∧ isI64 (2 : Int) ∧ ((0 : Int) ≤ (2 : Int) ∧ (2 : Int) < (↑(3 : Nat) : Int)) ∧ ((0 : Int) ≤ (2 : Int) ∧ (2 : Int) < (↑(3 : Nat) : Int)) ∧ ((0 : Int) ≤ (2 : Int) ∧ (2
  : Int) < (↑(3 : Nat) : Int)) ∧ ((0 : Int) ≤ (2 : Int) ∧ (2 : Int) < (↑(3 : Nat) : Int)) ∧ isI64 (3 : Int) ∧ preM (10 : Nat) (aDv.fst, aDv.snd.fst, Rose.node
  ((aDv.snd.snd.fst.val.fst.fst, aDv.snd.snd.fst.val.fst.snd.fst, ()), aDv.snd.snd.fst.val.snd.fst, ()) aDv.snd.snd.fst.subs, ()) (cDv.fst, cDv.snd.fst, Rose.node
  ((cDv.snd.snd.fst.val.fst.fst, cDv.snd.snd.fst.val.fst.snd.fst, ()), cDv.snd.snd.fst.val.snd.fst, ()) cDv.snd.snd.fst.subs, ()) ∧ (((cDv.fst, cDv.snd.fst, Rose.node
  ((cDv.snd.snd.fst.val.fst.fst, cDv.snd.snd.fst.val.fst.snd.fst, ()), cDv.snd.snd.fst.val.snd.fst, ()) cDv.snd.snd.fst.subs, ()), (1 : Int)) = (cDv, (1 : Int)) ∨ ((cDv.fst,
  cDv.snd.fst, Rose.node ((cDv.snd.snd.fst.val.fst.fst, cDv.snd.snd.fst.val.fst.snd.fst, ()), cDv.snd.snd.fst.val.snd.fst, ()) cDv.snd.snd.fst.subs, ()), (1 : Int)) = (cDv, (0 :
  Int))) ∧ (((cDv.fst, cDv.snd.fst, Rose.node ((cDv.snd.snd.fst.val.fst.fst, cDv.snd.snd.fst.val.fst.snd.fst, ()), cDv.snd.snd.fst.val.snd.fst, ()) cDv.snd.snd.fst.subs, ()), (0 :
  Int)) = (cDv, (1 : Int)) ∨ ((cDv.fst, cDv.snd.fst, Rose.node ((cDv.snd.snd.fst.val.fst.fst, cDv.snd.snd.fst.val.fst.snd.fst, ()), cDv.snd.snd.fst.val.snd.fst, ())
  cDv.snd.snd.fst.subs, ()), (0 : Int)) = (cDv, (0 : Int))) ∧ ((0 : Int) ≤ (0 : Int) ∧ (0 : Int) < (↑(2 : Nat) : Int)) ∧ ((0 : Int) ≤ (1 : Int) ∧ (1 : Int) < (↑(2 : Nat) : Int)) ∧
  ((0 : Int) ≤ (0 : Int) ∧ (0 : Int) < (↑(2 : Nat) : Int)) ∧ ((0 : Int) ≤ (1 : Int) ∧ (1 : Int) < (↑(2 : Nat) : Int)) ∧ ((0 : Int) ≤ (1 : Int) ∧ (1 : Int) < (↑(2 : Nat) : Int)) ∧
  ((0 : Int) ≤ (1 : Int) ∧ (1 : Int) < (↑(2 : Nat) : Int)) ∧ preA (10 : Nat) (dDv.fst, dDv.snd.fst, Rose.node ((dDv.snd.snd.fst.val.fst.fst, dDv.snd.snd.fst.val.fst.snd.fst, ()),
  dDv.snd.snd.fst.val.snd.fst, ()) dDv.snd.snd.fst.subs, ()) ∧ true = true) := by kernel_rfl
end Go.Proofs.Ytdeleoaeegmhlaa
