import Derived.Test.YtmimchmdikjilaaOd
import Derived.Test.YtmimchmdikjilaaSr
import Derived.Test.YtmimchmdikjilaaSg
namespace Go.Proofs.Ytmimchmdikjilaa
open Go.AM Go.PL Go.RowKit
set_option linter.unusedVariables false
/-! ### Joining -/
def growRSp : GSpec := ⟨[I], 44, RTy, fun n => 0 ≤ (n : Int) ∧ (n : Int) ≤ 1000000, fun _ => []⟩
def concatRG : GSpec := ⟨[.arr RLs], 44, RTy, fun ll => (ll : List (List Rst)).length ≤ 1000 ∧ (ll : List (List Rst)).flatten.length ≤ 1000, fun ll => (ll : List (List Rst)).flatten⟩
def joinPSp : FSpec := ⟨[PC, PC, I], [PC], fun x => ((x.1 : Piece).1.length + (x.2.1 : Piece).1.length ≤ 1000 ∧ 0 ≤ x.2.2) ∧ (x.1 : Piece).2.1.length + (x.2.1 : Piece).2.1.length ≤ 1000, fun x => ((ofH ((x.1 : Piece).1 ++ (x.2.1 : Piece).1) x.2.2, sortR ((x.1 : Piece).2.1 ++ (x.2.1 : Piece).2.1), ()) : Piece)⟩
def rJoinPSp : FSpec := ⟨[PC, PC, I], [PC], fun x => ((x.1 : Piece).1.length + (x.2.1 : Piece).1.length ≤ 1000 ∧ 0 ≤ x.2.2) ∧ (x.1 : Piece).2.1.length + (x.2.1 : Piece).2.1.length ≤ 1000, fun x => ((ofH ((x.1 : Piece).1 ++ (x.2.1 : Piece).1) x.2.2, (x.2.1 : Piece).2.1.foldl putR (x.1 : Piece).2.1, ()) : Piece)⟩
def sanPSp : FSpec := ⟨[], [.bool], fun _ => True, fun _ => true⟩
def loopsJ (f : FuncId) (r : Nat) : List LA :=
  if Nat.beq f 39 then (if Nat.beq r 3 then [.slot 11 I, .slot 3 I] else if Nat.beq r 11 then [.slot 27 I, .gslot 6 44 RTy] else []) else
  if Nat.beq f 23 then [.slot 8 I, .cell 12 0 HL, .cell 12 1 RLs] else
  []
def hintJ (f : FuncId) : Hint := ⟨loopsJ f, fun _ => .split, fun _ => .split, fun r => bif Nat.beq f 23 && Nat.beq r 2 then 501 else 0⟩
noncomputable def J0 : Ctx := mkctxS bs tQ2 [] [] [(59, growRSp)] hintJ
theorem concatR_nf (ll : List (List Rst)) : fnwpG J0 6 39 concatRG ll = (∃ (I : Int × Int → Prop), ∃ (μ : Int × Int → Nat), I ((0 : Int), (0 : Int)) ∧ ∀ (x : Int × Int), I x →
  (decide (x.fst < (↑ll.length : Int)) = true → ((0 : Int) ≤ x.fst ∧ x.fst < (↑ll.length : Int)) ∧ isI64 (x.snd + (↑(ll.getD x.fst.toNat []).length : Int)) ∧ (decide (x.snd +
  (↑(ll.getD x.fst.toNat []).length : Int) < (0 : Int)) = true → False) ∧ (decide (x.snd + (↑(ll.getD x.fst.toNat []).length : Int) < (0 : Int)) = false → isI64 (x.fst + (1 : Int))
  ∧ I (x.fst + (1 : Int), x.snd + (↑(ll.getD x.fst.toNat []).length : Int)) ∧ μ (x.fst + (1 : Int), x.snd + (↑(ll.getD x.fst.toNat []).length : Int)) < μ x)) ∧ (decide (x.fst <
  (↑ll.length : Int)) = false → ((0 : Int) ≤ x.snd ∧ x.snd ≤ (1000000 : Int)) ∧ ∃ (I : Int × List (Int × Int × PUnit) → Prop), ∃ (μ : Int × List (Int × Int × PUnit) → Nat), I ((0 :
  Int), []) ∧ ∀ (x : Int × List (Int × Int × PUnit)), I x → (decide (x.fst < (↑ll.length : Int)) = true → ((0 : Int) ≤ x.fst ∧ x.fst < (↑ll.length : Int)) ∧ roomP J0 (44 : Nat)
  (x.snd.length + (ll.getD x.fst.toNat []).length) ∧ isI64 (x.fst + (1 : Int)) ∧ I (x.fst + (1 : Int), x.snd ++ ll.getD x.fst.toNat []) ∧ μ (x.fst + (1 : Int), x.snd ++ ll.getD
  x.fst.toNat []) < μ x) ∧ (decide (x.fst < (↑ll.length : Int)) = false → x.snd = ll.flatten))) := by kernel_rfl
def tJ1 : List (FuncId × FSpec) := (41, mergeHSp) :: (42, mergeHSp) :: (43, putRSp) :: tQ2
noncomputable def J1 : Ctx := mkctxS bs tJ1 [(39, concatRG)] [(40, sortRSp)] [] hintJ
theorem join_nf (a b : Piece) (k : Int) : fnwp J1 6 21 joinPSp (a, b, k) = (([a.snd.fst, b.snd.fst].length ≤ (1000 : Nat) ∧ [a.snd.fst, b.snd.fst].flatten.length ≤ (1000 : Nat)) ∧
  (↑[a.snd.fst, b.snd.fst].flatten.length : Int) ≤ (4611686018427387903 : Int) ∧ (a.fst.length + b.fst.length ≤ (1000 : Nat) ∧ (0 : Int) ≤ k) ∧ (ofH (a.fst ++ b.fst) k, sortR
  [a.snd.fst, b.snd.fst].flatten, ()) = (ofH (a.fst ++ b.fst) k, sortR (a.snd.fst ++ b.snd.fst), ())) := by kernel_rfl
theorem rJoin_nf (a b : Piece) (k : Int) : fnwp J1 6 23 rJoinPSp (a, b, k) = ((a.fst.length + b.fst.length ≤ (1000 : Nat) ∧ (0 : Int) ≤ k) ∧ roomP J1 (44 : Nat) a.snd.fst.length ∧
  ∃ (I : Int × List (Int × Int × Int × PUnit) × List (Int × Int × PUnit) → Prop), ∃ (μ : Int × List (Int × Int × Int × PUnit) × List (Int × Int × PUnit) → Nat), I ((0 : Int), ofH
  (a.fst ++ b.fst) k, a.snd.fst) ∧ ∀ (x : Int × List (Int × Int × Int × PUnit) × List (Int × Int × PUnit)), I x → (decide (x.fst < (↑b.snd.fst.length : Int)) = true → ((0 : Int) ≤
  x.fst ∧ x.fst < (↑b.snd.fst.length : Int)) ∧ x.snd.snd.length ≤ (100000 : Nat) ∧ isI64 (x.fst + (1 : Int)) ∧ I (x.fst + (1 : Int), x.snd.fst, putR x.snd.snd (b.snd.fst.getD
  x.fst.toNat ((0 : Int), (0 : Int), ()))) ∧ μ (x.fst + (1 : Int), x.snd.fst, putR x.snd.snd (b.snd.fst.getD x.fst.toNat ((0 : Int), (0 : Int), ()))) < μ x) ∧ (decide (x.fst <
  (↑b.snd.fst.length : Int)) = false → (x.snd.fst, x.snd.snd, ()) = (ofH (a.fst ++ b.fst) k, List.foldl putR a.snd.fst b.snd.fst, ()))) := by kernel_rfl
def tJ2 : List (FuncId × FSpec) := (12, validPSp) :: (11, validPSp) :: (15, exactPSp) :: (16, exactPSp) :: (22, samePSp) ::
  (26, fillSp) :: (19, needPSp) :: (20, needPSp) :: (21, joinPSp) :: (23, rJoinPSp) :: (25, ofHSp) ::
  (28, commonHSp) :: tJ1
noncomputable def JS : Ctx := mkctx bs tJ2 [] hintC
theorem sanP_nf : fnwp JS 6 10 sanPSp () = (True ∧ True ∧ True ∧ True ∧ True ∧ True ∧ (smallP ([((1 : Int), (1 : Int), (3 : Int), ()), ((2 : Int), (1 : Int), (5 : Int), ()), ((3 :
  Int), (1 : Int), (9 : Int), ())], [], ()) ∧ orderP ([((1 : Int), (1 : Int), (3 : Int), ()), ((2 : Int), (1 : Int), (5 : Int), ()), ((3 : Int), (1 : Int), (9 : Int), ())], [],
  ())) ∧ (smallP ([((1 : Int), (1 : Int), (3 : Int), ()), ((2 : Int), (1 : Int), (5 : Int), ()), ((3 : Int), (1 : Int), (9 : Int), ())], [((4 : Int), (1 : Int), ())], ()) ∧ orderP
  ([((1 : Int), (1 : Int), (3 : Int), ()), ((2 : Int), (1 : Int), (5 : Int), ()), ((3 : Int), (1 : Int), (9 : Int), ())], [((4 : Int), (1 : Int), ())], ())) ∧ (smallP ([((1 : Int),
  (1 : Int), (3 : Int), ()), ((2 : Int), (1 : Int), (5 : Int), ()), ((3 : Int), (1 : Int), (9 : Int), ())], [((4 : Int), (2 : Int), ())], ()) ∧ orderP ([((1 : Int), (1 : Int), (3 :
  Int), ()), ((2 : Int), (1 : Int), (5 : Int), ()), ((3 : Int), (1 : Int), (9 : Int), ())], [((4 : Int), (2 : Int), ())], ())) ∧ (smallP ([((1 : Int), (1 : Int), (3 : Int), ()),
  ((2 : Int), (1 : Int), (5 : Int), ()), ((3 : Int), (1 : Int), (9 : Int), ())], [((5 : Int), (1 : Int), ()), ((6 : Int), (2 : Int), ())], ()) ∧ orderP ([((1 : Int), (1 : Int), (3
  : Int), ()), ((2 : Int), (1 : Int), (5 : Int), ()), ((3 : Int), (1 : Int), (9 : Int), ())], [((5 : Int), (1 : Int), ()), ((6 : Int), (2 : Int), ())], ())) ∧ (smallP ([((1 : Int),
  (1 : Int), (3 : Int), ()), ((2 : Int), (1 : Int), (5 : Int), ()), ((3 : Int), (1 : Int), (9 : Int), ())], [((3 : Int), (9 : Int), ())], ()) ∧ orderP ([((1 : Int), (1 : Int), (3 :
  Int), ()), ((2 : Int), (1 : Int), (5 : Int), ()), ((3 : Int), (1 : Int), (9 : Int), ())], [((3 : Int), (9 : Int), ())], ())) ∧ (smallP ([((1 : Int), (1 : Int), (3 : Int), ()),
  ((2 : Int), (1 : Int), (5 : Int), ()), ((3 : Int), (1 : Int), (9 : Int), ())], [((10 : Int), (1 : Int), ())], ()) ∧ orderP ([((1 : Int), (1 : Int), (3 : Int), ()), ((2 : Int), (1
  : Int), (5 : Int), ()), ((3 : Int), (1 : Int), (9 : Int), ())], [((10 : Int), (1 : Int), ())], ())) ∧ (1 : Int) ≤ (4 : Int) ∧ (1 : Int) ≤ (4 : Int) ∧ (1 : Int) ≤ (3 : Int) ∧ (1 :
  Int) ≤ (4 : Int) ∧ True ∧ True ∧ ((0 : Int) ≤ (1 : Int) ∧ (1 : Int) ≤ (2 : Int)) ∧ ((0 : Int) ≤ (0 : Int) ∧ (0 : Int) ≤ (1 : Int) ∧ (1 : Int) ≤ (2 : Int)) ∧ (((3 : Nat) ≤ (1000 :
  Nat) ∧ (0 : Int) ≤ (4 : Int)) ∧ (2 : Nat) ≤ (1000 : Nat)) ∧ True ∧ True ∧ True ∧ (smallP ([((1 : Int), (1 : Int), (3 : Int), ()), ((2 : Int), (1 : Int), (5 : Int), ()), ((3 :
  Int), (1 : Int), (9 : Int), ())], [((5 : Int), (1 : Int), ()), ((6 : Int), (2 : Int), ())], ()) ∧ orderP ([((1 : Int), (1 : Int), (3 : Int), ()), ((2 : Int), (1 : Int), (5 :
  Int), ()), ((3 : Int), (1 : Int), (9 : Int), ())], [((5 : Int), (1 : Int), ()), ((6 : Int), (2 : Int), ())], ())) ∧ (smallP ([((1 : Int), (1 : Int), (3 : Int), ()), ((2 : Int),
  (1 : Int), (5 : Int), ()), ((3 : Int), (1 : Int), (9 : Int), ())], [((3 : Int), (9 : Int), ())], ()) ∧ orderP ([((1 : Int), (1 : Int), (3 : Int), ()), ((2 : Int), (1 : Int), (5 :
  Int), ()), ((3 : Int), (1 : Int), (9 : Int), ())], [((3 : Int), (9 : Int), ())], ())) ∧ true = true) := by kernel_rfl
end Go.Proofs.Ytmimchmdikjilaa
