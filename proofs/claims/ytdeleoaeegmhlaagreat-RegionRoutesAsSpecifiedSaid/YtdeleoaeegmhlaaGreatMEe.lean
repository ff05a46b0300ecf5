import Derived.Test.YtdeleoaeegmhlaaGreatMEa
import Derived.Test.YtdeleoaeegmhlaaGreatMRb
namespace Go.Proofs.YtdeleoaeegmhlaaGreat
open Go.AM Go.PL
set_option linter.unusedVariables false
def hintEe (f : FuncId) : Hint := ⟨fun _ => [], fun r => bif Nat.beq f 3 && Nat.beq r 3 then .yes else .split, fun _ => .split, fun _ => 0⟩
def tEe (n : Nat) : List (FuncId × FSpec) := [(4, rfewSp 60), (5, rvalidSp n), (6, bvecSp), (7, isMSp), (8, sanSp),
  (9, homeSp n), (10, rHomeSp n), (12, routeSp n), (13, rRouteSp n), (15, movesSp n), (16, rMovesSp n),
  (11, same4Sp), (14, sameMSp)]
noncomputable def QL (n : Nat) : Ctx := mkctx bs (tEe n) [] hintEe
theorem law_nf (n : Nat) (a b : Dv) (m : Int) (v : List Int) (w : Int) : fnwp (QL n) 6 3 (lawSp [DV, DV, I, L, I]) (a, b, m, v, w) = ((60 : Nat) = (60 : Nat) ∧ ((!fewD (60 : Nat)
  a) = true → True ∧ true = true) ∧ ((!fewD (60 : Nat) a) = false → (60 : Nat) = (60 : Nat) ∧ ((!fewD (60 : Nat) b) = true → True ∧ true = true) ∧ ((!fewD (60 : Nat) b) = false →
  deepN n a.snd.snd.fst ∧ ((!validD n a) = true → True ∧ true = true) ∧ ((!validD n a) = false → deepN n b.snd.snd.fst ∧ ((!validD n b) = true → True ∧ true = true) ∧ ((!validD n
  b) = false → ((!decide (a.fst = b.fst)) = true → True ∧ true = true) ∧ ((!decide (a.fst = b.fst)) = false → ((!decide ((↑v.length : Int) = a.fst)) = true → True ∧ true = true) ∧
  ((!decide ((↑v.length : Int) = a.fst)) = false → True ∧ ((!bvec v) = true → True ∧ true = true) ∧ ((!bvec v) = false → True ∧ ((!isM m) = true → True ∧ true = true) ∧ ((!isM m) =
  false → (decide (w < (0 : Int)) = true → True ∧ true = true) ∧ (decide (w < (0 : Int)) = false → (decide ((134217728 : Int) < w) = true → True ∧ true = true) ∧ (decide
  ((134217728 : Int) < w) = false → True ∧ true = true ∧ preA n a ∧ preR n a ∧ decide (homeN n a v = homeN n a v) = true ∧ preA n a ∧ (preR n a ∧ smallK (areasN n a) m v) ∧ True ∧
  decide (routeN n a m v w = routeN n a m v w) = true ∧ preM n a b ∧ preRM n a b ∧ True ∧ decide (movesN n a b = movesN n a b) = true))))))))))) := by kernel_rfl
end Go.Proofs.YtdeleoaeegmhlaaGreat
