import Derived.Test.YtohbapfijafecaaMf
import Derived.Test.YtohbapfijafecaaV4b
namespace Go.Proofs.Ytohbapfijafecaa
open Go.AM Go.PL
set_option linter.unusedVariables false

def refRingSp : FSpec := ⟨[I, I, I], [.pair I (.pair I .unit)], fun x => keyP x.2.1 ∧ keyP x.2.2, fun x => ((if (x.2.2 : Int) < x.2.1 then lowS x.1 x.2.1 x.2.2 else (0 : Int)), (highS x.1 x.2.1 x.2.2, ()))⟩
def keyOf (m d : Int) : Int := if m = 2 then d * d else d
def keySp5 : FSpec := ⟨[I, I], [I], fun x => -100000 ≤ (x.2 : Int) ∧ (x.2 : Int) ≤ 100000, fun x => keyOf x.1 x.2⟩
def keysB (m a b c : Int) : Bool := validS m a && (validS m b && validS m c)
def keysSp : FSpec := ⟨[I, I, I, I], [.bool], fun _ => True, fun x => keysB x.1 x.2.1 x.2.2.1 x.2.2.2⟩
def sanitySp : FSpec := ⟨[], [.bool], fun _ => True, fun _ => true⟩

def loopsM (f : FuncId) (r : Nat) : List LA :=
  if f = 13 then (if r = 3 then [.cell 0 0 I, .cell 0 1 I, .cell 1 0 I, .cell 1 1 I, .slot 8 I] else [.cell 0 0 I, .cell 0 1 I, .cell 1 0 I, .cell 1 1 I, .slot 10 I]) else []
def tblM : List (FuncId × FSpec) :=
  [(30, isqSp), (31, validSp), (27, validSp), (14, lowSp), (16, highSp),
    (15, lowSp), (17, highSp), (18, triSp), (19, triSp),
    (12, ringSp), (20, gapSp), (22, reachSp), (24, ballSp), (25, ballSp)]
theorem satM : AllSat Try.prog tblM :=
  ⟨sat_isqrt, sat_valid, sat_valid2, sat_low, sat_high, sat_low2, sat_high2, sat_tri, sat_tri2, sat_ring, sat_gap, sat_reach, sat_ball, sat_ball2, trivial⟩
noncomputable def M0 : Ctx := ctx Try.prog tblM loopsM tyV

theorem rRing_nf (m a t : Int) : fnwp M0 5 13 refRingSp (m, a, t) = (∃ (I : Int × Int × Int × Int × Int → Prop), ∃ (μ : Int × Int × Int × Int × Int → Nat), I ((0 : Int), (0 : Int),
  a, a, (-1 : Int)) ∧ ∀ (x : Int × Int × Int × Int × Int), I x → isI64 (x.snd.snd.fst - x.snd.snd.snd.snd) ∧ (decide ((1 : Int) < x.snd.snd.fst - x.snd.snd.snd.snd) = true → isI64
  (x.snd.snd.fst - x.snd.snd.snd.snd) ∧ ((2 : Int) ≠ (0 : Int) ∧ isI64 ((x.snd.snd.fst - x.snd.snd.snd.snd).tdiv (2 : Int))) ∧ isI64 (x.snd.snd.snd.snd + (x.snd.snd.fst -
  x.snd.snd.snd.snd).tdiv (2 : Int)) ∧ (keyP a ∧ keyP (x.snd.snd.snd.snd + (x.snd.snd.fst - x.snd.snd.snd.snd).tdiv (2 : Int))) ∧ (decide (lowS m a (x.snd.snd.snd.snd +
  (x.snd.snd.fst - x.snd.snd.snd.snd).tdiv (2 : Int)) ≤ t) = true → I (x.fst, x.snd.fst, x.snd.snd.snd.snd + (x.snd.snd.fst - x.snd.snd.snd.snd).tdiv (2 : Int), x.snd.snd.snd.fst,
  x.snd.snd.snd.snd) ∧ μ (x.fst, x.snd.fst, x.snd.snd.snd.snd + (x.snd.snd.fst - x.snd.snd.snd.snd).tdiv (2 : Int), x.snd.snd.snd.fst, x.snd.snd.snd.snd) < μ x) ∧ (decide (lowS m a
  (x.snd.snd.snd.snd + (x.snd.snd.fst - x.snd.snd.snd.snd).tdiv (2 : Int)) ≤ t) = false → I (x.fst, x.snd.fst, x.snd.snd.fst, x.snd.snd.snd.fst, x.snd.snd.snd.snd + (x.snd.snd.fst
  - x.snd.snd.snd.snd).tdiv (2 : Int)) ∧ μ (x.fst, x.snd.fst, x.snd.snd.fst, x.snd.snd.snd.fst, x.snd.snd.snd.snd + (x.snd.snd.fst - x.snd.snd.snd.snd).tdiv (2 : Int)) < μ x)) ∧
  (decide ((1 : Int) < x.snd.snd.fst - x.snd.snd.snd.snd) = false → ∃ (I : Int × Int × Int × Int × Int → Prop), ∃ (μ : Int × Int × Int × Int × Int → Nat), I (x.fst, x.snd.fst,
  x.snd.snd.fst, x.snd.snd.snd.fst, (134217729 : Int)) ∧ ∀ (x : Int × Int × Int × Int × Int), I x → isI64 (x.snd.snd.snd.snd - x.snd.snd.snd.fst) ∧ (decide ((1 : Int) <
  x.snd.snd.snd.snd - x.snd.snd.snd.fst) = true → isI64 (x.snd.snd.snd.snd - x.snd.snd.snd.fst) ∧ ((2 : Int) ≠ (0 : Int) ∧ isI64 ((x.snd.snd.snd.snd - x.snd.snd.snd.fst).tdiv (2 :
  Int))) ∧ isI64 (x.snd.snd.snd.fst + (x.snd.snd.snd.snd - x.snd.snd.snd.fst).tdiv (2 : Int)) ∧ (keyP a ∧ keyP (x.snd.snd.snd.fst + (x.snd.snd.snd.snd - x.snd.snd.snd.fst).tdiv (2
  : Int))) ∧ (decide (lowS m a (x.snd.snd.snd.fst + (x.snd.snd.snd.snd - x.snd.snd.snd.fst).tdiv (2 : Int)) ≤ t) = true → I (x.fst, x.snd.fst, x.snd.snd.fst, x.snd.snd.snd.fst +
  (x.snd.snd.snd.snd - x.snd.snd.snd.fst).tdiv (2 : Int), x.snd.snd.snd.snd) ∧ μ (x.fst, x.snd.fst, x.snd.snd.fst, x.snd.snd.snd.fst + (x.snd.snd.snd.snd - x.snd.snd.snd.fst).tdiv
  (2 : Int), x.snd.snd.snd.snd) < μ x) ∧ (decide (lowS m a (x.snd.snd.snd.fst + (x.snd.snd.snd.snd - x.snd.snd.snd.fst).tdiv (2 : Int)) ≤ t) = false → I (x.fst, x.snd.fst,
  x.snd.snd.fst, x.snd.snd.snd.fst, x.snd.snd.snd.fst + (x.snd.snd.snd.snd - x.snd.snd.snd.fst).tdiv (2 : Int)) ∧ μ (x.fst, x.snd.fst, x.snd.snd.fst, x.snd.snd.snd.fst,
  x.snd.snd.snd.fst + (x.snd.snd.snd.snd - x.snd.snd.snd.fst).tdiv (2 : Int)) < μ x)) ∧ (decide ((1 : Int) < x.snd.snd.snd.snd - x.snd.snd.snd.fst) = false → (x.snd.snd.fst,
  x.snd.snd.snd.fst, ()) = (if t < a then lowS m a t else (0 : Int), highS m a t, ())))) := by kernel_rfl
theorem key5_nf (m d : Int) : fnwp M0 5 29 keySp5 (m, d) = ((decide (m = (2 : Int)) = true → isI64 (d * d) ∧ d * d = keyOf m d) ∧ (decide (m = (2 : Int)) = false → d = keyOf m d))
  := by kernel_rfl
theorem keys_nf (m a b c : Int) : fnwp M0 5 10 keysSp (m, a, b, c) = (True ∧ (validS m a = true → True ∧ (validS m b = true → True ∧ validS m c = keysB m a b c) ∧ (validS m b =
  false → false = keysB m a b c)) ∧ (validS m a = false → false = keysB m a b c)) := by kernel_rfl
end Go.Proofs.Ytohbapfijafecaa
