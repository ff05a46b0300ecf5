import Derived.Test.YtdeleoaeegmhlaaMYc
namespace Go.Proofs.Ytdeleoaeegmhlaa
open Go.AM Go.PL
set_option linter.unusedVariables false
noncomputable def YB (n : Nat) : Ctx := mkctxI bs tY1 [] [(64, regI n)] hintRB
theorem regB_nf (n : Nat) (x : Sp) (b : Box) : fnwpI (YB n) 6 64 (regIB n) (x, b) = (∀ (Y : Proto (regIB n).ys) (own : Nat → Prop), Y.2 = regs1 n x b → decide ((↑(Rose.subs
  x).length : Int) = (0 : Int)) = false ∧ ((!decide ((↑(Rose.subs x).length : Int) = (2 : Int))) = true → (∃ (rest : List ((List Int × List Int × PUnit) × Rose ((I.pair (I.pair
  Ty.unit)).den × (L.pair Ty.unit).den))), Y.2 = [] ++ (([], [], ()), x) :: rest) ∧ ∀ (own : Nat → Prop), ((∃ (own' : Nat → Prop), Blk.log [BX, ST] Y own ([] ++ [(([], [], ()),
  x)]) = Blk.log [BX, ST] Y own' (regs1 n x b)) ∨ ∃ (own' : Nat → Prop), Blk.log [BX, ST] Y own ([] ++ [(([], [], ()), x)]) = Blk.lof [BX, ST] Y own') ∧ ((∃ (own' : Nat → Prop),
  Blk.lof [BX, ST] Y own = Blk.log [BX, ST] Y own' (regs1 n x b)) ∨ ∃ (own' : Nat → Prop), Blk.lof [BX, ST] Y own = Blk.lof [BX, ST] Y own')) ∧ ((!decide ((↑(Rose.subs x).length :
  Int) = (2 : Int))) = false → (decide ((0 : Int) < (↑(Rose.val x).snd.fst.length : Int)) = true → (∃ (rest : List ((List Int × List Int × PUnit) × Rose ((I.pair (I.pair
  Ty.unit)).den × (L.pair Ty.unit).den))), Y.2 = [] ++ (([], [], ()), x) :: rest) ∧ ∀ (own : Nat → Prop), ((∃ (own' : Nat → Prop), Blk.log [BX, ST] Y own ([] ++ [(([], [], ()),
  x)]) = Blk.log [BX, ST] Y own' (regs1 n x b)) ∨ ∃ (own' : Nat → Prop), Blk.log [BX, ST] Y own ([] ++ [(([], [], ()), x)]) = Blk.lof [BX, ST] Y own') ∧ ((∃ (own' : Nat → Prop),
  Blk.lof [BX, ST] Y own = Blk.log [BX, ST] Y own' (regs1 n x b)) ∨ ∃ (own' : Nat → Prop), Blk.lof [BX, ST] Y own = Blk.lof [BX, ST] Y own')) ∧ (decide ((0 : Int) < (↑(Rose.val
  x).snd.fst.length : Int)) = false → evenB b ∧ ((!cutsB b (Rose.val x).fst.fst (Rose.val x).fst.snd.fst) = true → (∃ (rest : List ((List Int × List Int × PUnit) × Rose ((I.pair
  (I.pair Ty.unit)).den × (L.pair Ty.unit).den))), Y.2 = [] ++ (([], [], ()), x) :: rest) ∧ ∀ (own : Nat → Prop), ((∃ (own' : Nat → Prop), Blk.log [BX, ST] Y own ([] ++ [(([], [],
  ()), x)]) = Blk.log [BX, ST] Y own' (regs1 n x b)) ∨ ∃ (own' : Nat → Prop), Blk.log [BX, ST] Y own ([] ++ [(([], [], ()), x)]) = Blk.lof [BX, ST] Y own') ∧ ((∃ (own' : Nat →
  Prop), Blk.lof [BX, ST] Y own = Blk.log [BX, ST] Y own' (regs1 n x b)) ∨ ∃ (own' : Nat → Prop), Blk.lof [BX, ST] Y own = Blk.lof [BX, ST] Y own')) ∧ ((!cutsB b (Rose.val
  x).fst.fst (Rose.val x).fst.snd.fst) = false → (evenB b ∧ cutsB b (Rose.val x).fst.fst (Rose.val x).fst.snd.fst = true) ∧ ((0 : Int) ≤ (0 : Int) ∧ (0 : Int) < (↑[((lowB b
  (Rose.val x).fst.fst (Rose.val x).fst.snd.fst).fst, (lowB b (Rose.val x).fst.fst (Rose.val x).fst.snd.fst).snd.fst, ()), ((highB b (Rose.val x).fst.fst (Rose.val
  x).fst.snd.fst).fst, (highB b (Rose.val x).fst.fst (Rose.val x).fst.snd.fst).snd.fst, ())].length : Int)) ∧ ((0 : Int) ≤ (0 : Int) ∧ (0 : Int) < (↑(Rose.subs x).length : Int)) ∧
  (deepN n ((Rose.subs x).getD (0 : Nat) (Rose.node (((0 : Int), (0 : Int), ()), [], ()) [])) ∧ evenB (([((lowB b (Rose.val x).fst.fst (Rose.val x).fst.snd.fst).fst, (lowB b
  (Rose.val x).fst.fst (Rose.val x).fst.snd.fst).snd.fst, ()), ((highB b (Rose.val x).fst.fst (Rose.val x).fst.snd.fst).fst, (highB b (Rose.val x).fst.fst (Rose.val
  x).fst.snd.fst).snd.fst, ())].getD (0 : Nat) ([], [], ())).fst, ([((lowB b (Rose.val x).fst.fst (Rose.val x).fst.snd.fst).fst, (lowB b (Rose.val x).fst.fst (Rose.val
  x).fst.snd.fst).snd.fst, ()), ((highB b (Rose.val x).fst.fst (Rose.val x).fst.snd.fst).fst, (highB b (Rose.val x).fst.fst (Rose.val x).fst.snd.fst).snd.fst, ())].getD (0 : Nat)
  ([], [], ())).snd.fst, ())) ∧ ∃ (I : List ((List Int × List Int × PUnit) × Rose ((I.pair (I.pair Ty.unit)).den × (L.pair Ty.unit).den)) → List ((List Int × List Int × PUnit) ×
  Rose ((I.pair (I.pair Ty.unit)).den × (L.pair Ty.unit).den)) → PUnit → Prop), (∃ (own_1 : Nat → Prop), ∃ (z : List ((List Int × List Int × PUnit) × Rose ((Ytdeleoaeegmhlaa.I.pair
  (Ytdeleoaeegmhlaa.I.pair Ty.unit)).den × (L.pair Ty.unit).den))), Blk.log [BX, ST] Y own [] = Blk.log [BX, ST] Y own_1 z ∧ I [] z ()) ∧ (∀ (xs : List ((List Int × List Int ×
  PUnit) × Rose ((Ytdeleoaeegmhlaa.I.pair (Ytdeleoaeegmhlaa.I.pair Ty.unit)).den × (L.pair Ty.unit).den))) (y : (List Int × List Int × PUnit) × Rose ((Ytdeleoaeegmhlaa.I.pair
  (Ytdeleoaeegmhlaa.I.pair Ty.unit)).den × (L.pair Ty.unit).den)) (rest : List ((List Int × List Int × PUnit) × Rose ((Ytdeleoaeegmhlaa.I.pair (Ytdeleoaeegmhlaa.I.pair
  Ty.unit)).den × (L.pair Ty.unit).den))), regsN n ((Rose.subs x).getD (0 : Nat) (Rose.node (((0 : Int), (0 : Int), ()), [], ()) [])) (([((lowB b (Rose.val x).fst.fst (Rose.val
  x).fst.snd.fst).fst, (lowB b (Rose.val x).fst.fst (Rose.val x).fst.snd.fst).snd.fst, ()), ((highB b (Rose.val x).fst.fst (Rose.val x).fst.snd.fst).fst, (highB b (Rose.val
  x).fst.fst (Rose.val x).fst.snd.fst).snd.fst, ())].getD (0 : Nat) ([], [], ())).fst, ([((lowB b (Rose.val x).fst.fst (Rose.val x).fst.snd.fst).fst, (lowB b (Rose.val x).fst.fst
  (Rose.val x).fst.snd.fst).snd.fst, ()), ((highB b (Rose.val x).fst.fst (Rose.val x).fst.snd.fst).fst, (highB b (Rose.val x).fst.fst (Rose.val x).fst.snd.fst).snd.fst, ())].getD
  (0 : Nat) ([], [], ())).snd.fst, ()) = xs ++ y :: rest → ∀ (own : Nat → Prop) (z : List ((List Int × List Int × PUnit) × Rose ((Ytdeleoaeegmhlaa.I.pair (Ytdeleoaeegmhlaa.I.pair
  Ty.unit)).den × (L.pair Ty.unit).den))) (v : PUnit), I xs z v → (∃ (rest : List ((List Int × List Int × PUnit) × Rose ((Ytdeleoaeegmhlaa.I.pair (Ytdeleoaeegmhlaa.I.pair
  Ty.unit)).den × (L.pair Ty.unit).den))), Y.2 = z ++ ((y.fst.fst, y.fst.snd.fst, ()), Rose.node ((y.snd.val.fst.fst, y.snd.val.fst.snd.fst, ()), y.snd.val.snd.fst, ()) y.snd.subs)
  :: rest) ∧ ∀ (own : Nat → Prop), (∃ (own_1 : Nat → Prop), ∃ (z_1 : List ((List Int × List Int × PUnit) × Rose ((Ytdeleoaeegmhlaa.I.pair (Ytdeleoaeegmhlaa.I.pair Ty.unit)).den ×
  (L.pair Ty.unit).den))), Blk.log [BX, ST] Y own (z ++ [((y.fst.fst, y.fst.snd.fst, ()), Rose.node ((y.snd.val.fst.fst, y.snd.val.fst.snd.fst, ()), y.snd.val.snd.fst, ())
  y.snd.subs)]) = Blk.log [BX, ST] Y own_1 z_1 ∧ I (xs ++ [y]) z_1 ()) ∧ ((∃ (own' : Nat → Prop), Blk.lof [BX, ST] Y own = Blk.log [BX, ST] Y own' (regs1 n x b)) ∨ ∃ (own' : Nat →
  Prop), Blk.lof [BX, ST] Y own = Blk.lof [BX, ST] Y own')) ∧ ∀ (own : Nat → Prop) (z : List ((List Int × List Int × PUnit) × Rose ((Ytdeleoaeegmhlaa.I.pair
  (Ytdeleoaeegmhlaa.I.pair Ty.unit)).den × (L.pair Ty.unit).den))) (v : PUnit), I (regsN n ((Rose.subs x).getD (0 : Nat) (Rose.node (((0 : Int), (0 : Int), ()), [], ()) []))
  (([((lowB b (Rose.val x).fst.fst (Rose.val x).fst.snd.fst).fst, (lowB b (Rose.val x).fst.fst (Rose.val x).fst.snd.fst).snd.fst, ()), ((highB b (Rose.val x).fst.fst (Rose.val
  x).fst.snd.fst).fst, (highB b (Rose.val x).fst.fst (Rose.val x).fst.snd.fst).snd.fst, ())].getD (0 : Nat) ([], [], ())).fst, ([((lowB b (Rose.val x).fst.fst (Rose.val
  x).fst.snd.fst).fst, (lowB b (Rose.val x).fst.fst (Rose.val x).fst.snd.fst).snd.fst, ()), ((highB b (Rose.val x).fst.fst (Rose.val x).fst.snd.fst).fst, (highB b (Rose.val
  x).fst.fst (Rose.val x).fst.snd.fst).snd.fst, ())].getD (0 : Nat) ([], [], ())).snd.fst, ())) z v → isI64 (1 : Int) ∧ ((0 : Int) ≤ (1 : Int) ∧ (1 : Int) < (↑[((lowB b (Rose.val
  x).fst.fst (Rose.val x).fst.snd.fst).fst, (lowB b (Rose.val x).fst.fst (Rose.val x).fst.snd.fst).snd.fst, ()), ((highB b (Rose.val x).fst.fst (Rose.val x).fst.snd.fst).fst,
  (highB b (Rose.val x).fst.fst (Rose.val x).fst.snd.fst).snd.fst, ())].length : Int)) ∧ ((0 : Int) ≤ (1 : Int) ∧ (1 : Int) < (↑(Rose.subs x).length : Int)) ∧ (deepN n ((Rose.subs
  x).getD (1 : Nat) (Rose.node (((0 : Int), (0 : Int), ()), [], ()) [])) ∧ evenB (([((lowB b (Rose.val x).fst.fst (Rose.val x).fst.snd.fst).fst, (lowB b (Rose.val x).fst.fst
  (Rose.val x).fst.snd.fst).snd.fst, ()), ((highB b (Rose.val x).fst.fst (Rose.val x).fst.snd.fst).fst, (highB b (Rose.val x).fst.fst (Rose.val x).fst.snd.fst).snd.fst, ())].getD
  (1 : Nat) ([], [], ())).fst, ([((lowB b (Rose.val x).fst.fst (Rose.val x).fst.snd.fst).fst, (lowB b (Rose.val x).fst.fst (Rose.val x).fst.snd.fst).snd.fst, ()), ((highB b
  (Rose.val x).fst.fst (Rose.val x).fst.snd.fst).fst, (highB b (Rose.val x).fst.fst (Rose.val x).fst.snd.fst).snd.fst, ())].getD (1 : Nat) ([], [], ())).snd.fst, ())) ∧ ∃ (I : List
  ((List Int × List Int × PUnit) × Rose ((Ytdeleoaeegmhlaa.I.pair (Ytdeleoaeegmhlaa.I.pair Ty.unit)).den × (L.pair Ty.unit).den)) → List ((List Int × List Int × PUnit) × Rose
  ((Ytdeleoaeegmhlaa.I.pair (Ytdeleoaeegmhlaa.I.pair Ty.unit)).den × (L.pair Ty.unit).den)) → PUnit → Prop), (∃ (own_1 : Nat → Prop), ∃ (z_1 : List ((List Int × List Int × PUnit) ×
  Rose ((Ytdeleoaeegmhlaa.I.pair (Ytdeleoaeegmhlaa.I.pair Ty.unit)).den × (L.pair Ty.unit).den))), Blk.log [BX, ST] Y own z = Blk.log [BX, ST] Y own_1 z_1 ∧ I [] z_1 ()) ∧ (∀ (xs :
  List ((List Int × List Int × PUnit) × Rose ((Ytdeleoaeegmhlaa.I.pair (Ytdeleoaeegmhlaa.I.pair Ty.unit)).den × (L.pair Ty.unit).den))) (y : (List Int × List Int × PUnit) × Rose
  ((Ytdeleoaeegmhlaa.I.pair (Ytdeleoaeegmhlaa.I.pair Ty.unit)).den × (L.pair Ty.unit).den)) (rest : List ((List Int × List Int × PUnit) × Rose ((Ytdeleoaeegmhlaa.I.pair
  (Ytdeleoaeegmhlaa.I.pair Ty.unit)).den × (L.pair Ty.unit).den))), regsN n ((Rose.subs x).getD (1 : Nat) (Rose.node (((0 : Int), (0 : Int), ()), [], ()) [])) (([((lowB b (Rose.val
  x).fst.fst (Rose.val x).fst.snd.fst).fst, (lowB b (Rose.val x).fst.fst (Rose.val x).fst.snd.fst).snd.fst, ()), ((highB b (Rose.val x).fst.fst (Rose.val x).fst.snd.fst).fst,
  (highB b (Rose.val x).fst.fst (Rose.val x).fst.snd.fst).snd.fst, ())].getD (1 : Nat) ([], [], ())).fst, ([((lowB b (Rose.val x).fst.fst (Rose.val x).fst.snd.fst).fst, (lowB b
  (Rose.val x).fst.fst (Rose.val x).fst.snd.fst).snd.fst, ()), ((highB b (Rose.val x).fst.fst (Rose.val x).fst.snd.fst).fst, (highB b (Rose.val x).fst.fst (Rose.val
  x).fst.snd.fst).snd.fst, ())].getD (1 : Nat) ([], [], ())).snd.fst, ()) = xs ++ y :: rest → ∀ (own : Nat → Prop) (z : List ((List Int × List Int × PUnit) × Rose
  ((Ytdeleoaeegmhlaa.I.pair (Ytdeleoaeegmhlaa.I.pair Ty.unit)).den × (L.pair Ty.unit).den))) (v : PUnit), I xs z v → (∃ (rest : List ((List Int × List Int × PUnit) × Rose
  ((Ytdeleoaeegmhlaa.I.pair (Ytdeleoaeegmhlaa.I.pair Ty.unit)).den × (L.pair Ty.unit).den))), Y.2 = z ++ ((y.fst.fst, y.fst.snd.fst, ()), Rose.node ((y.snd.val.fst.fst,
  y.snd.val.fst.snd.fst, ()), y.snd.val.snd.fst, ()) y.snd.subs) :: rest) ∧ ∀ (own : Nat → Prop), (∃ (own_1 : Nat → Prop), ∃ (z_1 : List ((List Int × List Int × PUnit) × Rose
  ((Ytdeleoaeegmhlaa.I.pair (Ytdeleoaeegmhlaa.I.pair Ty.unit)).den × (L.pair Ty.unit).den))), Blk.log [BX, ST] Y own (z ++ [((y.fst.fst, y.fst.snd.fst, ()), Rose.node
  ((y.snd.val.fst.fst, y.snd.val.fst.snd.fst, ()), y.snd.val.snd.fst, ()) y.snd.subs)]) = Blk.log [BX, ST] Y own_1 z_1 ∧ I (xs ++ [y]) z_1 ()) ∧ ((∃ (own' : Nat → Prop), Blk.lof
  [BX, ST] Y own = Blk.log [BX, ST] Y own' (regs1 n x b)) ∨ ∃ (own' : Nat → Prop), Blk.lof [BX, ST] Y own = Blk.lof [BX, ST] Y own')) ∧ ∀ (own : Nat → Prop) (z : List ((List Int ×
  List Int × PUnit) × Rose ((Ytdeleoaeegmhlaa.I.pair (Ytdeleoaeegmhlaa.I.pair Ty.unit)).den × (L.pair Ty.unit).den))) (v : PUnit), I (regsN n ((Rose.subs x).getD (1 : Nat)
  (Rose.node (((0 : Int), (0 : Int), ()), [], ()) [])) (([((lowB b (Rose.val x).fst.fst (Rose.val x).fst.snd.fst).fst, (lowB b (Rose.val x).fst.fst (Rose.val
  x).fst.snd.fst).snd.fst, ()), ((highB b (Rose.val x).fst.fst (Rose.val x).fst.snd.fst).fst, (highB b (Rose.val x).fst.fst (Rose.val x).fst.snd.fst).snd.fst, ())].getD (1 : Nat)
  ([], [], ())).fst, ([((lowB b (Rose.val x).fst.fst (Rose.val x).fst.snd.fst).fst, (lowB b (Rose.val x).fst.fst (Rose.val x).fst.snd.fst).snd.fst, ()), ((highB b (Rose.val
  x).fst.fst (Rose.val x).fst.snd.fst).fst, (highB b (Rose.val x).fst.fst (Rose.val x).fst.snd.fst).snd.fst, ())].getD (1 : Nat) ([], [], ())).snd.fst, ())) z v → isI64 (2 : Int) ∧
  ((∃ (own' : Nat → Prop), Blk.log [BX, ST] Y own z = Blk.log [BX, ST] Y own' (regs1 n x b)) ∨ ∃ (own' : Nat → Prop), Blk.log [BX, ST] Y own z = Blk.lof [BX, ST] Y own'))))) := by
  kernel_rfl
end Go.Proofs.Ytdeleoaeegmhlaa
