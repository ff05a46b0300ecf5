import Derived.Test.YtdeleoaeegmhlaaMYg
namespace Go.PL
open Go.AM
def areaOf (y : Box × Sp) : Box × List Int × Unit := (y.1, offs y.2, ())
def areasN (n : Nat) (d : Int × Int × Sp × Unit) : List (Box × List Int × Unit) := (regsN n d.2.2.1 (wholeB d.1)).map areaOf
def okA (n : Nat) (d : Int × Int × Sp × Unit) : Prop := (regsN n d.2.2.1 (wholeB d.1)).length ≤ 1000 ∧ ∀ p ∈ regsN n d.2.2.1 (wholeB d.1), (offs p.2).length ≤ 1000000
end Go.PL
namespace Go.Proofs.Ytdeleoaeegmhlaa
open Go.AM Go.PL
set_option linter.unusedVariables false
def areasSp (n : Nat) : FSpec := ⟨[DV], [.arr AR], fun d => 1 ≤ (d.1 : Int) ∧ (d.1 : Int) ≤ 1000 ∧ deepN n d.2.2.1 ∧ okA n d, fun d => areasN n d⟩
def hintA (f : FuncId) : Hint := ⟨fun _ => bif Nat.beq f 64 then [.gcell 0 0 36 AR] else [], fun r => bif Nat.beq f 11 && (Nat.beq r 2 || Nat.beq r 5) then .all else .split, fun _ => .split, fun _ => 0⟩
noncomputable def YAr (n : Nat) : Ctx := mkctxI bs tY1 [] [(64, regI n)] hintA
theorem areas_nf (n : Nat) (d : Int × Int × Sp × Unit) : fnwp (YAr n) 6 11 (areasSp n) d = (((1 : Int) ≤ d.fst ∧ d.fst ≤ (1000 : Int)) ∧ (deepN n d.snd.snd.fst ∧ evenB (wholeB
  d.fst)) ∧ ∃ (I : List ((List Int × List Int × PUnit) × Rose ((I.pair (I.pair Ty.unit)).den × (L.pair Ty.unit).den)) → PUnit → List ((List Int × List Int × PUnit) × List Int ×
  PUnit) → Prop), I [] () [] ∧ (∀ (xs : List ((List Int × List Int × PUnit) × Rose ((Ytdeleoaeegmhlaa.I.pair (Ytdeleoaeegmhlaa.I.pair Ty.unit)).den × (L.pair Ty.unit).den))) (y :
  (List Int × List Int × PUnit) × Rose ((Ytdeleoaeegmhlaa.I.pair (Ytdeleoaeegmhlaa.I.pair Ty.unit)).den × (L.pair Ty.unit).den)) (rest : List ((List Int × List Int × PUnit) × Rose
  ((Ytdeleoaeegmhlaa.I.pair (Ytdeleoaeegmhlaa.I.pair Ty.unit)).den × (L.pair Ty.unit).den))), regsN n d.snd.snd.fst (wholeB d.fst) = xs ++ y :: rest → ∀ (own : Nat → Prop) (z :
  PUnit) (v : List ((List Int × List Int × PUnit) × List Int × PUnit)), I xs z v → ((y.snd.val.snd.fst.length ≤ (1000000 : Nat) ∧ roomP (YAr n) (36 : Nat) (v.length + [((y.fst.fst,
  y.fst.snd.fst, ()), y.snd.val.snd.fst, ())].length) ∧ I (xs ++ [y]) () (v ++ [((y.fst.fst, y.fst.snd.fst, ()), y.snd.val.snd.fst, ())])) ∧ y.snd.val.snd.fst.length ≤ (1000000 :
  Nat) ∧ roomP (YAr n) (36 : Nat) (v.length + [((y.fst.fst, y.fst.snd.fst, ()), y.snd.val.snd.fst, ())].length) ∧ I (xs ++ [y]) () (v ++ [((y.fst.fst, y.fst.snd.fst, ()),
  y.snd.val.snd.fst, ())])) ∧ ((y.snd.val.snd.fst.length ≤ (1000000 : Nat) ∧ roomP (YAr n) (36 : Nat) (v.length + [((y.fst.fst, y.fst.snd.fst, ()), y.snd.val.snd.fst, ())].length)
  ∧ I (xs ++ [y]) () (v ++ [((y.fst.fst, y.fst.snd.fst, ()), y.snd.val.snd.fst, ())])) ∧ y.snd.val.snd.fst.length ≤ (1000000 : Nat) ∧ (roomP (YAr n) (36 : Nat) (v.length +
  [((y.fst.fst, y.fst.snd.fst, ()), y.snd.val.snd.fst, ())].length) ∧ I (xs ++ [y]) () (v ++ [((y.fst.fst, y.fst.snd.fst, ()), y.snd.val.snd.fst, ())])) ∧ (roomP (YAr n) (36 : Nat)
  (v.length + [((y.fst.fst, y.fst.snd.fst, ()), y.snd.val.snd.fst, ())].length) ∧ I (xs ++ [y]) () (v ++ [((y.fst.fst, y.fst.snd.fst, ()), y.snd.val.snd.fst, ())])) ∧ roomP (YAr n)
  (36 : Nat) (v.length + [((y.fst.fst, y.fst.snd.fst, ()), y.snd.val.snd.fst, ())].length) ∧ I (xs ++ [y]) () (v ++ [((y.fst.fst, y.fst.snd.fst, ()), y.snd.val.snd.fst, ())])) ∧
  y.snd.val.snd.fst.length ≤ (1000000 : Nat) ∧ (roomP (YAr n) (36 : Nat) (v.length + [((y.fst.fst, y.fst.snd.fst, ()), y.snd.val.snd.fst, ())].length) ∧ I (xs ++ [y]) () (v ++
  [((y.fst.fst, y.fst.snd.fst, ()), y.snd.val.snd.fst, ())])) ∧ (roomP (YAr n) (36 : Nat) (v.length + [((y.fst.fst, y.fst.snd.fst, ()), y.snd.val.snd.fst, ())].length) ∧ I (xs ++
  [y]) () (v ++ [((y.fst.fst, y.fst.snd.fst, ()), y.snd.val.snd.fst, ())])) ∧ roomP (YAr n) (36 : Nat) (v.length + [((y.fst.fst, y.fst.snd.fst, ()), y.snd.val.snd.fst, ())].length)
  ∧ I (xs ++ [y]) () (v ++ [((y.fst.fst, y.fst.snd.fst, ()), y.snd.val.snd.fst, ())])) ∧ ∀ (own : Nat → Prop) (z : PUnit) (v : List ((List Int × List Int × PUnit) × List Int ×
  PUnit)), I (regsN n d.snd.snd.fst (wholeB d.fst)) z v → v = areasN n d) := by kernel_rfl
end Go.Proofs.Ytdeleoaeegmhlaa
