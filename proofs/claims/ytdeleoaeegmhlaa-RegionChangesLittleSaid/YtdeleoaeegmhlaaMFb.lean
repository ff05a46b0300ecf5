import Derived.Test.YtdeleoaeegmhlaaMFa
--@abbr ((Rose.subs x).getD (0 : Nat) (Rose.node (((0 : Int), (0 : Int), ()), [], ()) [])) => (gS x 0)
--@abbr ((Rose.subs x).getD (1 : Nat) (Rose.node (((0 : Int), (0 : Int), ()), [], ()) [])) => (gS x 1)
--@abbr ((Rose.subs x).getD (2 : Nat) (Rose.node (((0 : Int), (0 : Int), ()), [], ()) [])) => (gS x 2)
--@abbr Rose.node (((gS x 0).val.fst.fst, (gS x 0).val.fst.snd.fst, ()), (gS x 0).val.snd.fst, ()) (gS x 0).subs => nS (gS x 0)
--@abbr Rose.node (((gS x 1).val.fst.fst, (gS x 1).val.fst.snd.fst, ()), (gS x 1).val.snd.fst, ()) (gS x 1).subs => nS (gS x 1)
--@abbr Rose.node (((gS x 2).val.fst.fst, (gS x 2).val.fst.snd.fst, ()), (gS x 2).val.snd.fst, ()) (gS x 2).subs => nS (gS x 2)
namespace Go.PL
open Go.AM
set_option linter.unusedVariables false
def items2 (x : Sp) : List Sp := if x.subs.length = 0 then [x] else [subOf x 0, subOf x 1]
def leafy (x : Sp) : Prop := x.subs.length = 0
def pre2 (x : Sp) : Prop := x.subs.length = 0 ∨ (x.subs.length = 2 ∧ (subOf x 0).subs.length = 0 ∧ (subOf x 1).subs.length = 0)
end Go.PL
namespace Go.Proofs.Ytdeleoaeegmhlaa
open Go.AM Go.PL
set_option linter.unusedVariables false
def parts1I : ISpec := ⟨[ST], [ST], fun x => leafy x, fun x => [x]⟩
def parts2I : ISpec := ⟨[ST], [ST], fun x => pre2 x, fun x => items2 x⟩
def hintP1 (f : FuncId) : Hint := ⟨fun _ => [], fun _ => .split, fun t => bif Nat.beq f 86 && Nat.beq t 9 then .yes else .split, fun r => 0⟩
def hintP2 (f : FuncId) : Hint := ⟨fun _ => [], fun _ => .split, fun _ => .split, fun r => bif Nat.beq f 86 && Nat.beq r 4 then 3 else 0⟩
noncomputable def FP1 : Ctx := mkctx bs [] [] hintP1
noncomputable def FP2 : Ctx := mkctxI bs [] [] [(86, parts1I)] hintP2
theorem partsA_nf (x : Sp) : fnwpI FP1 6 86 parts1I x = (∀ (Y : Proto parts1I.ys) (own : Nat → Prop), Y.2 = [x] → decide ((↑(Rose.subs x).length : Int) = (0 : Int)) = true ∧ (∃
  (rest : List (Rose ((I.pair (I.pair Ty.unit)).den × (L.pair Ty.unit).den))), Y.2 = [] ++ x :: rest) ∧ ∀ (own : Nat → Prop), ((∃ (own' : Nat → Prop), Blk.log [ST] Y own ([] ++
  [x]) = Blk.log [ST] Y own' [x]) ∨ ∃ (own' : Nat → Prop), Blk.log [ST] Y own ([] ++ [x]) = Blk.lof [ST] Y own') ∧ ((∃ (own' : Nat → Prop), Blk.lof [ST] Y own = Blk.log [ST] Y own'
  [x]) ∨ ∃ (own' : Nat → Prop), Blk.lof [ST] Y own = Blk.lof [ST] Y own')) := by kernel_rfl
theorem partsB_nf (x : Sp) : fnwpI FP2 6 86 parts2I x = (∀ (Y : Proto parts2I.ys) (own : Nat → Prop), Y.2 = items2 x → (decide ((↑(Rose.subs x).length : Int) = (0 : Int)) = true →
  (∃ (rest : List (Rose ((I.pair (I.pair Ty.unit)).den × (L.pair Ty.unit).den))), Y.2 = [] ++ x :: rest) ∧ ∀ (own : Nat → Prop), ((∃ (own' : Nat → Prop), Blk.log [ST] Y own ([] ++
  [x]) = Blk.log [ST] Y own' (items2 x)) ∨ ∃ (own' : Nat → Prop), Blk.log [ST] Y own ([] ++ [x]) = Blk.lof [ST] Y own') ∧ ((∃ (own' : Nat → Prop), Blk.lof [ST] Y own = Blk.log [ST]
  Y own' (items2 x)) ∨ ∃ (own' : Nat → Prop), Blk.lof [ST] Y own = Blk.lof [ST] Y own')) ∧ (decide ((↑(Rose.subs x).length : Int) = (0 : Int)) = false → (decide ((0 : Int) <
  (↑(Rose.subs x).length : Int)) = true → ((0 : Int) ≤ (0 : Int) ∧ (0 : Int) < (↑(Rose.subs x).length : Int)) ∧ leafy (nS (gS x 0)) ∧ ∃ (I : List (Rose ((I.pair (I.pair
  Ty.unit)).den × (L.pair Ty.unit).den)) → List (Rose ((I.pair (I.pair Ty.unit)).den × (L.pair Ty.unit).den)) → PUnit → Prop), (∃ (own_1 : Nat → Prop), ∃ (z : List (Rose
  ((Ytdeleoaeegmhlaa.I.pair (Ytdeleoaeegmhlaa.I.pair Ty.unit)).den × (L.pair Ty.unit).den))), Blk.log [ST] Y own [] = Blk.log [ST] Y own_1 z ∧ I [] z ()) ∧ (∀ (xs : List (Rose
  ((Ytdeleoaeegmhlaa.I.pair (Ytdeleoaeegmhlaa.I.pair Ty.unit)).den × (L.pair Ty.unit).den))) (y : Rose ((Ytdeleoaeegmhlaa.I.pair (Ytdeleoaeegmhlaa.I.pair Ty.unit)).den × (L.pair
  Ty.unit).den)) (rest : List (Rose ((Ytdeleoaeegmhlaa.I.pair (Ytdeleoaeegmhlaa.I.pair Ty.unit)).den × (L.pair Ty.unit).den))), [nS (gS x 0)] = xs ++ y :: rest → ∀ (own : Nat →
  Prop) (z : List (Rose ((Ytdeleoaeegmhlaa.I.pair (Ytdeleoaeegmhlaa.I.pair Ty.unit)).den × (L.pair Ty.unit).den))) (v : PUnit), I xs z v → (∃ (rest : List (Rose
  ((Ytdeleoaeegmhlaa.I.pair (Ytdeleoaeegmhlaa.I.pair Ty.unit)).den × (L.pair Ty.unit).den))), Y.2 = z ++ Rose.node ((y.val.fst.fst, y.val.fst.snd.fst, ()), y.val.snd.fst, ())
  y.subs :: rest) ∧ ∀ (own : Nat → Prop), (∃ (own_1 : Nat → Prop), ∃ (z_1 : List (Rose ((Ytdeleoaeegmhlaa.I.pair (Ytdeleoaeegmhlaa.I.pair Ty.unit)).den × (L.pair Ty.unit).den))),
  Blk.log [ST] Y own (z ++ [Rose.node ((y.val.fst.fst, y.val.fst.snd.fst, ()), y.val.snd.fst, ()) y.subs]) = Blk.log [ST] Y own_1 z_1 ∧ I (xs ++ [y]) z_1 ()) ∧ ((∃ (own' : Nat →
  Prop), Blk.lof [ST] Y own = Blk.log [ST] Y own' (items2 x)) ∨ ∃ (own' : Nat → Prop), Blk.lof [ST] Y own = Blk.lof [ST] Y own')) ∧ ∀ (own : Nat → Prop) (z : List (Rose
  ((Ytdeleoaeegmhlaa.I.pair (Ytdeleoaeegmhlaa.I.pair Ty.unit)).den × (L.pair Ty.unit).den))) (v : PUnit), I [nS (gS x 0)] z v → isI64 (1 : Int) ∧ (decide ((1 : Int) < (↑(Rose.subs
  x).length : Int)) = true → ((0 : Int) ≤ (1 : Int) ∧ (1 : Int) < (↑(Rose.subs x).length : Int)) ∧ leafy (nS (gS x 1)) ∧ ∃ (I : List (Rose ((Ytdeleoaeegmhlaa.I.pair
  (Ytdeleoaeegmhlaa.I.pair Ty.unit)).den × (L.pair Ty.unit).den)) → List (Rose ((Ytdeleoaeegmhlaa.I.pair (Ytdeleoaeegmhlaa.I.pair Ty.unit)).den × (L.pair Ty.unit).den)) → PUnit →
  Prop), (∃ (own_1 : Nat → Prop), ∃ (z_1 : List (Rose ((Ytdeleoaeegmhlaa.I.pair (Ytdeleoaeegmhlaa.I.pair Ty.unit)).den × (L.pair Ty.unit).den))), Blk.log [ST] Y own z = Blk.log
  [ST] Y own_1 z_1 ∧ I [] z_1 ()) ∧ (∀ (xs : List (Rose ((Ytdeleoaeegmhlaa.I.pair (Ytdeleoaeegmhlaa.I.pair Ty.unit)).den × (L.pair Ty.unit).den))) (y : Rose
  ((Ytdeleoaeegmhlaa.I.pair (Ytdeleoaeegmhlaa.I.pair Ty.unit)).den × (L.pair Ty.unit).den)) (rest : List (Rose ((Ytdeleoaeegmhlaa.I.pair (Ytdeleoaeegmhlaa.I.pair Ty.unit)).den ×
  (L.pair Ty.unit).den))), [nS (gS x 1)] = xs ++ y :: rest → ∀ (own : Nat → Prop) (z : List (Rose ((Ytdeleoaeegmhlaa.I.pair (Ytdeleoaeegmhlaa.I.pair Ty.unit)).den × (L.pair
  Ty.unit).den))) (v : PUnit), I xs z v → (∃ (rest : List (Rose ((Ytdeleoaeegmhlaa.I.pair (Ytdeleoaeegmhlaa.I.pair Ty.unit)).den × (L.pair Ty.unit).den))), Y.2 = z ++ Rose.node
  ((y.val.fst.fst, y.val.fst.snd.fst, ()), y.val.snd.fst, ()) y.subs :: rest) ∧ ∀ (own : Nat → Prop), (∃ (own_1 : Nat → Prop), ∃ (z_1 : List (Rose ((Ytdeleoaeegmhlaa.I.pair
  (Ytdeleoaeegmhlaa.I.pair Ty.unit)).den × (L.pair Ty.unit).den))), Blk.log [ST] Y own (z ++ [Rose.node ((y.val.fst.fst, y.val.fst.snd.fst, ()), y.val.snd.fst, ()) y.subs]) =
  Blk.log [ST] Y own_1 z_1 ∧ I (xs ++ [y]) z_1 ()) ∧ ((∃ (own' : Nat → Prop), Blk.lof [ST] Y own = Blk.log [ST] Y own' (items2 x)) ∨ ∃ (own' : Nat → Prop), Blk.lof [ST] Y own =
  Blk.lof [ST] Y own')) ∧ ∀ (own : Nat → Prop) (z : List (Rose ((Ytdeleoaeegmhlaa.I.pair (Ytdeleoaeegmhlaa.I.pair Ty.unit)).den × (L.pair Ty.unit).den))) (v : PUnit), I [nS (gS x
  1)] z v → isI64 (2 : Int) ∧ (decide ((2 : Int) < (↑(Rose.subs x).length : Int)) = true → ((0 : Int) ≤ (2 : Int) ∧ (2 : Int) < (↑(Rose.subs x).length : Int)) ∧ leafy (nS (gS x 2))
  ∧ ∃ (I : List (Rose ((Ytdeleoaeegmhlaa.I.pair (Ytdeleoaeegmhlaa.I.pair Ty.unit)).den × (L.pair Ty.unit).den)) → List (Rose ((Ytdeleoaeegmhlaa.I.pair (Ytdeleoaeegmhlaa.I.pair
  Ty.unit)).den × (L.pair Ty.unit).den)) → PUnit → Prop), (∃ (own_1 : Nat → Prop), ∃ (z_1 : List (Rose ((Ytdeleoaeegmhlaa.I.pair (Ytdeleoaeegmhlaa.I.pair Ty.unit)).den × (L.pair
  Ty.unit).den))), Blk.log [ST] Y own z = Blk.log [ST] Y own_1 z_1 ∧ I [] z_1 ()) ∧ (∀ (xs : List (Rose ((Ytdeleoaeegmhlaa.I.pair (Ytdeleoaeegmhlaa.I.pair Ty.unit)).den × (L.pair
  Ty.unit).den))) (y : Rose ((Ytdeleoaeegmhlaa.I.pair (Ytdeleoaeegmhlaa.I.pair Ty.unit)).den × (L.pair Ty.unit).den)) (rest : List (Rose ((Ytdeleoaeegmhlaa.I.pair
  (Ytdeleoaeegmhlaa.I.pair Ty.unit)).den × (L.pair Ty.unit).den))), [nS (gS x 2)] = xs ++ y :: rest → ∀ (own : Nat → Prop) (z : List (Rose ((Ytdeleoaeegmhlaa.I.pair
  (Ytdeleoaeegmhlaa.I.pair Ty.unit)).den × (L.pair Ty.unit).den))) (v : PUnit), I xs z v → (∃ (rest : List (Rose ((Ytdeleoaeegmhlaa.I.pair (Ytdeleoaeegmhlaa.I.pair Ty.unit)).den ×
  (L.pair Ty.unit).den))), Y.2 = z ++ Rose.node ((y.val.fst.fst, y.val.fst.snd.fst, ()), y.val.snd.fst, ()) y.subs :: rest) ∧ ∀ (own : Nat → Prop), (∃ (own_1 : Nat → Prop), ∃ (z_1
  : List (Rose ((Ytdeleoaeegmhlaa.I.pair (Ytdeleoaeegmhlaa.I.pair Ty.unit)).den × (L.pair Ty.unit).den))), Blk.log [ST] Y own (z ++ [Rose.node ((y.val.fst.fst, y.val.fst.snd.fst,
  ()), y.val.snd.fst, ()) y.subs]) = Blk.log [ST] Y own_1 z_1 ∧ I (xs ++ [y]) z_1 ()) ∧ ((∃ (own' : Nat → Prop), Blk.lof [ST] Y own = Blk.log [ST] Y own' (items2 x)) ∨ ∃ (own' :
  Nat → Prop), Blk.lof [ST] Y own = Blk.lof [ST] Y own')) ∧ ∀ (own : Nat → Prop) (z : List (Rose ((Ytdeleoaeegmhlaa.I.pair (Ytdeleoaeegmhlaa.I.pair Ty.unit)).den × (L.pair
  Ty.unit).den))) (v : PUnit), I [nS (gS x 2)] z v → isI64 (3 : Int) ∧ False) ∧ (decide ((2 : Int) < (↑(Rose.subs x).length : Int)) = false → (∃ (own' : Nat → Prop), Blk.log [ST] Y
  own z = Blk.log [ST] Y own' (items2 x)) ∨ ∃ (own' : Nat → Prop), Blk.log [ST] Y own z = Blk.lof [ST] Y own')) ∧ (decide ((1 : Int) < (↑(Rose.subs x).length : Int)) = false → (∃
  (own' : Nat → Prop), Blk.log [ST] Y own z = Blk.log [ST] Y own' (items2 x)) ∨ ∃ (own' : Nat → Prop), Blk.log [ST] Y own z = Blk.lof [ST] Y own')) ∧ (decide ((0 : Int) <
  (↑(Rose.subs x).length : Int)) = false → (∃ (own' : Nat → Prop), Blk.log [ST] Y own [] = Blk.log [ST] Y own' (items2 x)) ∨ ∃ (own' : Nat → Prop), Blk.log [ST] Y own [] = Blk.lof
  [ST] Y own'))) := by kernel_rfl
end Go.Proofs.Ytdeleoaeegmhlaa
