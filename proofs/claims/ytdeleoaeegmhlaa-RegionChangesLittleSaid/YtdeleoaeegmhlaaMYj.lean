import Derived.Test.YtdeleoaeegmhlaaMYi
namespace Go.PL
open Go.AM
set_option linter.unusedVariables false
abbrev Dv := Int × Int × Sp × Unit
def validD (n : Nat) (d : Dv) : Bool := decide (1 ≤ d.1) && (decide (d.1 ≤ 32) && (decide (1 ≤ d.2.1) && (decide (d.2.1 ≤ 1073741824) && decide (countN n d.2.2.1 (wholeB d.1) 64 ≤ 64))))
def fewD (k : Nat) (d : Dv) : Bool := decide (partsN k d.2.2.1 60 ≤ 60)
end Go.PL
namespace Go.Proofs.Ytdeleoaeegmhlaa
open Go.AM Go.PL
set_option linter.unusedVariables false
def rfewSp (k : Nat) : FSpec := ⟨[DV], [.bool], fun _ => k = 60, fun d => fewD k d⟩
def rvalidSp (n : Nat) : FSpec := ⟨[DV], [.bool], fun d => deepN n d.2.2.1, fun d => validD n d⟩
theorem rfew_nf (k : Nat) (d : Dv) : fnwp (YP k) 6 7 (rfewSp k) d = (((60 : Int) = (↑k : Int) ∧ (0 : Int) ≤ (60 : Int) ∧ (60 : Int) ≤ (1000 : Int)) ∧ decide (partsN k d.snd.snd.fst
  (60 : Int) ≤ (60 : Int)) = fewD k d) := by kernel_rfl
theorem rvalid_nf (n : Nat) (d : Dv) : fnwp (YC n) 6 8 (rvalidSp n) d = ((decide (d.fst < (1 : Int)) = true → false = validD n d) ∧ (decide (d.fst < (1 : Int)) = false → (decide
  ((32 : Int) < d.fst) = true → false = validD n d) ∧ (decide ((32 : Int) < d.fst) = false → (decide (d.snd.fst < (1 : Int)) = true → false = validD n d) ∧ (decide (d.snd.fst < (1
  : Int)) = false → (decide ((1073741824 : Int) < d.snd.fst) = true → false = validD n d) ∧ (decide ((1073741824 : Int) < d.snd.fst) = false → ((1 : Int) ≤ d.fst ∧ d.fst ≤ (1000 :
  Int)) ∧ (deepN n d.snd.snd.fst ∧ evenB (wholeB d.fst) ∧ (0 : Int) ≤ (64 : Int) ∧ (64 : Int) ≤ (64 : Int)) ∧ decide (countN n d.snd.snd.fst (wholeB d.fst) (64 : Int) ≤ (64 : Int))
  = validD n d))))) := by kernel_rfl
end Go.Proofs.Ytdeleoaeegmhlaa
