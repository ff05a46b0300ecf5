import Derived.Test.YtdeleoaeegmhlaaMYn
namespace Go.PL
open Go.AM
set_option linter.unusedVariables false
def okV (n : Nat) (d : Dv) : Prop := 1 ≤ d.1 ∧ d.1 ≤ 32 ∧ 1 ≤ d.2.1 ∧ d.2.1 ≤ 1073741824 ∧ deepN n d.2.2.1 ∧ (regsN n d.2.2.1 (wholeB d.1)).length ≤ 64 ∧ ∀ p ∈ regsN n d.2.2.1 (wholeB d.1), p.1.1.length ≠ 0
end Go.PL
namespace Go.Proofs.Ytdeleoaeegmhlaa
open Go.AM Go.PL
set_option linter.unusedVariables false
def sanSp : FSpec := ⟨[], [.bool], fun _ => True, fun _ => true⟩
def validVSp (n : Nat) : FSpec := ⟨[DV], [.bool], fun d => okV n d, fun _ => true⟩
def hintVl (f : FuncId) : Hint := ⟨fun _ => bif Nat.beq f 64 then [.cell 0 0 I] else [], fun r => bif Nat.beq f 30 && Nat.beq r 4 then .all else .split, fun _ => .split, fun _ => 0⟩
noncomputable def YV (n : Nat) : Ctx := mkctxI bs tY1 [] [(64, regI n)] hintVl
theorem valid_nf (n : Nat) (d : Dv) : fnwp (YV n) 6 30 (validVSp n) d = ((decide (d.fst < (1 : Int)) = true → false = true) ∧ (decide (d.fst < (1 : Int)) = false → (decide ((32 :
  Int) < d.fst) = true → false = true) ∧ (decide ((32 : Int) < d.fst) = false → (decide (d.snd.fst < (1 : Int)) = true → false = true) ∧ (decide (d.snd.fst < (1 : Int)) = false →
  (decide ((1073741824 : Int) < d.snd.fst) = true → false = true) ∧ (decide ((1073741824 : Int) < d.snd.fst) = false → ((1 : Int) ≤ d.fst ∧ d.fst ≤ (1000 : Int)) ∧ (deepN n
  d.snd.snd.fst ∧ evenB (wholeB d.fst)) ∧ ∃ (I : List ((List Int × List Int × PUnit) × Rose ((I.pair (I.pair Ty.unit)).den × (L.pair Ty.unit).den)) → PUnit → Int → Prop), I [] ()
  (0 : Int) ∧ (∀ (xs : List ((List Int × List Int × PUnit) × Rose ((Ytdeleoaeegmhlaa.I.pair (Ytdeleoaeegmhlaa.I.pair Ty.unit)).den × (L.pair Ty.unit).den))) (y : (List Int × List
  Int × PUnit) × Rose ((Ytdeleoaeegmhlaa.I.pair (Ytdeleoaeegmhlaa.I.pair Ty.unit)).den × (L.pair Ty.unit).den)) (rest : List ((List Int × List Int × PUnit) × Rose
  ((Ytdeleoaeegmhlaa.I.pair (Ytdeleoaeegmhlaa.I.pair Ty.unit)).den × (L.pair Ty.unit).den))), regsN n d.snd.snd.fst (wholeB d.fst) = xs ++ y :: rest → ∀ (own : Nat → Prop) (z :
  PUnit) (v : Int), I xs z v → isI64 (v + (1 : Int)) ∧ (decide ((↑y.fst.fst.length : Int) = (0 : Int)) = true → false = true) ∧ (decide ((↑y.fst.fst.length : Int) = (0 : Int)) =
  false → (decide ((64 : Int) < v + (1 : Int)) = true → false = true) ∧ (decide ((64 : Int) < v + (1 : Int)) = false → I (xs ++ [y]) () (v + (1 : Int))))) ∧ ∀ (own : Nat → Prop) (z
  : PUnit) (v : Int), I (regsN n d.snd.snd.fst (wholeB d.fst)) z v → decide (v ≤ (64 : Int)) = true))))) := by kernel_rfl
end Go.Proofs.Ytdeleoaeegmhlaa
